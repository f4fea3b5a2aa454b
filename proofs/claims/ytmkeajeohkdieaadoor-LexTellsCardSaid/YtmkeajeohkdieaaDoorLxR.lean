/- The reference's Escaped; idle. -/
import Derived.Test.YtmkeajeohkdieaaDoorLxBack
import Derived.Outline
namespace Go.Proofs.YtmkeajeohkdieaaDoor
open Go.RowKit Lx
set_option linter.unusedSimpArgs false
set_option linter.unusedVariables false

theorem mk_append (a b : List UInt8) : (⟨a.toArray⟩ : ByteArray) ++ ⟨b.toArray⟩ = ⟨(a ++ b).toArray⟩ := by
  apply ByteArray.ext
  simp
theorem two_more (l : List UInt8) (a b : UInt8) : (⟨l.toArray⟩ : ByteArray) ++ ⟨[a].toArray⟩ ++ ⟨[b].toArray⟩ = ⟨(l ++ [a, b]).toArray⟩ := by
  rw [mk_append, mk_append]; simp
theorem bs_append (a b : ByteArray) : bs (a ++ b) = bs a ++ bs b := by
  unfold bs; simp
theorem bs_inj {a b : ByteArray} (h : bs a = bs b) : a = b := by rw [← str_of_bs a, h, str_of_bs]
theorem bs_cut (s : ByteArray) (a b : Nat) : bs (s.extract a b) = ((bs s).drop a).take (b - a) := by unfold bs; rw [Lib.extract_data]
theorem bs_one (s : ByteArray) (k : Nat) (h : k < s.size) : s.extract k (k + 1) = ⟨[s[k]].toArray⟩ := by
  apply bs_inj
  rw [bs_cut, show k + 1 - k = 1 by omega, drop_at (bs_get s k h)]
  rfl

set_option maxHeartbeats 2000000 in
theorem refEscaped_any (s : ByteArray) (w : World) (hs : s.size ≤ 1000000) :
    Calls Tryd.prog 14 #[.string s] w fun e w' => e = .returned (.string ⟨(quote (bs s)).toArray⟩) ∧ w = w' := by
  go_enter Tryd.func14, Tryd.ntmps14
  go_wp2_with fail
  go_loop [3, 4] (fun v i => ∃ (k : Nat) (u : ByteArray), i = .int .i64 k ∧ v = .string u ∧ k ≤ s.size ∧ u.size ≤ 2 * k + 1 ∧ Hid (u = ⟨(34 :: esc ((bs s).take k)).toArray⟩)) (fun _ i => s.size - (intOf i).toNat)
  case atStart => exact ⟨0, _, rfl, rfl, by omega, by decide, rfl⟩
  case round =>
    obtain ⟨k, u, rfl, rfl, hk, hu, HU⟩ := hrel
    by_cases hlt : k < s.size
    · have hg := bs_get s k hlt
      have hst : (bs s).take (k + 1) = (bs s).take k ++ [s[k]] := by rw [List.take_add_one, hg]; rfl
      have e34 : (s[k] == 34) = ((s[k].toNat : Int) == 34) := (is_byte s[k] 34 34 rfl).symm
      have e92 : (s[k] == 92) = ((s[k].toNat : Int) == 92) := (is_byte s[k] 92 92 rfl).symm
      have hes : (34 :: esc ((bs s).take (k + 1)) : List UInt8) = 34 :: esc ((bs s).take k) ++ (if s[k] == 34 || s[k] == 92 then [92, s[k]] else [s[k]]) := by rw [hst, esc_snoc]; rfl
      rw [e34, e92] at hes
      have ho := bs_one s k hlt
      have hoz : (s.extract k (k + 1)).size = 1 := by rw [ho, size_mk']; rfl
      have HES := Lib.hid hes
      have HO := Lib.hid ho
      clear hg hst e34 e92 hes ho
      have h92 : (⟨#[92]⟩ : ByteArray).size = 1 := rfl
      cases b1 : ((s[k].toNat : Int) == 34) with
      | true =>
        rw [b1] at HES
        go_wp2
        go_round
        case rel => exact ⟨k + 1, _, by go_num, rfl, by omega, by simp only [ByteArray.size_append, hoz, h92]; omega, by rw [HES.out, HU.out, HO.out]; exact (two_more _ _ _)⟩
        case measure => simp [intOf]; omega
      | false =>
        cases b2 : ((s[k].toNat : Int) == 92) with
        | true =>
          rw [b1, b2] at HES
          go_wp2
          go_round
          case rel => exact ⟨k + 1, _, by go_num, rfl, by omega, by simp only [ByteArray.size_append, hoz, h92]; omega, by rw [HES.out, HU.out, HO.out]; exact (two_more _ _ _)⟩
          case measure => simp [intOf]; omega
        | false =>
          rw [b1, b2] at HES
          go_wp2
          go_round
          case rel => exact ⟨k + 1, _, by go_num, rfl, by omega, by simp only [ByteArray.size_append, hoz]; omega, by rw [HES.out, HU.out, HO.out]; exact mk_append _ _⟩
          case measure => simp [intOf]; omega
    · obtain rfl : k = s.size := by omega
      have hfull : (bs s).take s.size = bs s := by rw [← bs_len, List.take_length]
      rw [hfull] at HU
      clear hfull
      have h34 : (⟨#[34]⟩ : ByteArray).size = 1 := rfl
      go_wp2
      go_ret
      exact ⟨by rw [show (⟨(quote (bs s)).toArray⟩ : ByteArray) = u ++ ⟨#[34]⟩ from by rw [HU.out]; exact (mk_append (34 :: esc (bs s)) [34]).symm]; rfl, rfl⟩

theorem idle_step {cm : Bool} {c : UInt8} {r : List UInt8} {cm' : Bool} (h : cm' = (c == 35 || (cm && c != 10))) : Lx.idle cm (c :: r) = ((cm' || Lx.blank c) && Lx.idle cm' r) := by
  subst h; rfl

set_option maxHeartbeats 2000000 in
theorem idle_any (s : ByteArray) (w : World) (hs : s.size ≤ 1000000) :
    Calls Tryd.prog 15 #[.string s] w fun e w' => e = .returned (.bool (Lx.idle false (bs s))) ∧ w = w' := by
  go_enter Tryd.func15, Tryd.ntmps15
  go_wp2_with fail
  go_loop [3, 4] (fun v i => ∃ (k : Nat) (cm : Bool), i = .int .i64 k ∧ v = .bool cm ∧ k ≤ s.size ∧ Hid (Lx.idle false (bs s) = Lx.idle cm ((bs s).drop k))) (fun _ i => s.size - (intOf i).toNat)
  case atStart => exact ⟨0, false, rfl, rfl, by omega, rfl⟩
  case round =>
    obtain ⟨k, cm, rfl, rfl, hk, HI⟩ := hrel
    by_cases hlt : k < s.size
    · have hg := bs_get s k hlt
      have hd := drop_at hg
      have hst : ∀ cm', cm' = (s[k] == 35 || (cm && s[k] != 10)) → Lx.idle false (bs s) = ((cm' || Lx.blank s[k]) && Lx.idle cm' ((bs s).drop (k + 1))) := by
        intro cm' h
        rw [HI.out, hd]
        exact idle_step h
      have HST := Lib.hid hst
      clear hg hd hst
      have e35 : (s[k] == 35) = ((s[k].toNat : Int) == 35) := (is_byte s[k] 35 35 rfl).symm
      have e10 : (s[k] != 10) = ((s[k].toNat : Int) != 10) := by
        unfold bne; rw [is_byte s[k] 10 10 rfl]
      rw [e35, e10] at HST
      clear e35 e10
      cases b1 : ((s[k].toNat : Int) == 35) with
      | true =>
        rw [b1] at HST
        have HN := Lib.hid (show Lx.idle false (bs s) = Lx.idle true ((bs s).drop (k + 1)) by rw [HST.out true rfl]; rfl)
        go_wp2_with (go_at_call 29; refine (rblank_any _ _).mono ?_; rintro e w' ⟨rfl, rfl⟩)
        go_round
        case rel => exact ⟨k + 1, true, by go_num, rfl, by omega, HN.out⟩
        case measure => simp [intOf]; omega
      | false =>
        rw [b1] at HST
        cases cm with
        | true =>
          cases b2 : ((s[k].toNat : Int) != 10) with
          | true =>
            rw [b2] at HST
            have HN := Lib.hid (show Lx.idle false (bs s) = Lx.idle true ((bs s).drop (k + 1)) by rw [HST.out true rfl]; rfl)
            go_wp2_with (go_at_call 29; refine (rblank_any _ _).mono ?_; rintro e w' ⟨rfl, rfl⟩)
            go_round
            case rel => exact ⟨k + 1, true, by go_num, rfl, by omega, HN.out⟩
            case measure => simp [intOf]; omega
          | false =>
            rw [b2] at HST
            have hst := HST.out false rfl
            cases hb : Lx.blank s[k] with
            | true =>
              rw [hb] at hst
              have HN := Lib.hid (show Lx.idle false (bs s) = Lx.idle false ((bs s).drop (k + 1)) by rw [hst]; rfl)
              clear hst
              go_wp2_with (go_at_call 29; refine (rblank_any _ _).mono ?_; rintro e w' ⟨rfl, rfl⟩)
              go_round
              case rel => exact ⟨k + 1, false, by go_num, rfl, by omega, HN.out⟩
              case measure => simp [intOf]; omega
            | false =>
              rw [hb] at hst
              have HN := Lib.hid (show Lx.idle false (bs s) = false by rw [hst]; rfl)
              clear hst
              go_wp2_with (go_at_call 29; refine (rblank_any _ _).mono ?_; rintro e w' ⟨rfl, rfl⟩)
              go_ret
              exact ⟨ret_bool HN.out.symm, rfl⟩
        | false =>
          have hst := HST.out false rfl
          cases hb : Lx.blank s[k] with
          | true =>
            rw [hb] at hst
            have HN := Lib.hid (show Lx.idle false (bs s) = Lx.idle false ((bs s).drop (k + 1)) by rw [hst]; rfl)
            clear hst
            go_wp2_with (go_at_call 29; refine (rblank_any _ _).mono ?_; rintro e w' ⟨rfl, rfl⟩)
            go_round
            case rel => exact ⟨k + 1, false, by go_num, rfl, by omega, HN.out⟩
            case measure => simp [intOf]; omega
          | false =>
            rw [hb] at hst
            have HN := Lib.hid (show Lx.idle false (bs s) = false by rw [hst]; rfl)
            clear hst
            go_wp2_with (go_at_call 29; refine (rblank_any _ _).mono ?_; rintro e w' ⟨rfl, rfl⟩)
            go_ret
            exact ⟨ret_bool HN.out.symm, rfl⟩
    · obtain rfl : k = s.size := by omega
      have hfull : (bs s).drop s.size = [] := by rw [← bs_len, List.drop_length]
      rw [hfull] at HI
      clear hfull
      go_wp2
      go_ret
      exact ⟨ret_bool (by rw [HI.out]; rfl), rfl⟩

end Go.Proofs.YtmkeajeohkdieaaDoor
