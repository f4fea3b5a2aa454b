/- The reference's conversion. -/
import Derived.Test.YtphbgobdkmjijaaMd
namespace Go.Proofs.Ytphbgobdkmjijaa
open Go.RowKit Mo

theorem too_much (s a b M : Int) (ha : 0 < a) (hb : 0 < b) (h : M / a < s / b) : M < s * a / b := by
  rw [← split_quo s a b hb]
  have h1 : M < s / b * a := by
    have := Int.lt_mul_of_ediv_lt ha h
    exact this
  have h2 : 0 ≤ s % b * a / b := Int.ediv_nonneg (Int.mul_nonneg (Int.emod_nonneg s (by omega)) (by omega)) (by omega)
  omega

set_option maxHeartbeats 2000000 in
theorem refValue_any (s a b : Int) (w : World) (s0 : 0 ≤ s) (s1 : s ≤ 1099511627776) (a0 : 1 ≤ a) (a1 : a ≤ 1073741824) (b0 : 1 ≤ b) (b1 : b ≤ 1073741824) :
    Calls Try.prog 22 #[.int .i64 s, .int .i64 a, .int .i64 b] w fun e w' => e = .returned (.tuple #[.int .i64 (capV 1099511627776 (s * a / b)), .int .i64 (capE 1099511627776 (s * a / b))]) ∧ Same w w' := by
  have q0 : 0 ≤ s / b := Int.ediv_nonneg s0 (by omega)
  have q1 : s / b ≤ s := Int.ediv_le_self _ s0
  have m0 : 0 ≤ 1099511627776 / a := Int.ediv_nonneg (by omega) (by omega)
  have m1 : 1099511627776 / a ≤ 1099511627776 := Int.ediv_le_self _ (by omega)
  have v1 : IntKind.i64.wrap (s / b) = s / b := IntWalk.i64_in _ (by omega)
  have v2 : IntKind.i64.wrap (1099511627776 / a) = 1099511627776 / a := IntWalk.i64_in _ (by omega)
  by_cases hg : 1099511627776 / a < s / b
  · have hbig := too_much s a b 1099511627776 (by omega) (by omega) hg
    rw [capV_no hbig, capE_no hbig]
    clear hbig
    go_enter Try.func22, Try.ntmps22
    go_wp2
    go_quiet (fail)
    go_wp2
    go_ret2
    exact ⟨rfl, _, rfl⟩
  · have hsp := split_quo s a b (by omega)
    have r0 := Int.emod_nonneg s (show b ≠ 0 by omega)
    have r1 := Int.emod_lt_of_pos s (show 0 < b by omega)
    obtain ⟨x0, x1⟩ := prod_bd r0 (show s % b ≤ 1073741824 by omega) (show 0 ≤ a by omega) a1
    have y0 : 0 ≤ s / b * a := Int.mul_nonneg q0 (by omega)
    have y1 : s / b * a ≤ 1099511627776 := by
      have h1 : s / b * a ≤ 1099511627776 / a * a := Int.mul_le_mul_of_nonneg_right (by omega) (by omega)
      have h2 := Int.ediv_mul_le 1099511627776 (show a ≠ 0 by omega)
      omega
    have z0 : 0 ≤ s % b * a / b := Int.ediv_nonneg x0 (by omega)
    have z1 : s % b * a / b ≤ s % b * a := Int.ediv_le_self _ x0
    have v3 : IntKind.i64.wrap (s % b * a) = s % b * a := IntWalk.i64_in _ (by omega)
    have v4 : IntKind.i64.wrap (s % b * a / b) = s % b * a / b := IntWalk.i64_in _ (by omega)
    have v5 : IntKind.i64.wrap (s / b * a) = s / b * a := IntWalk.i64_in _ (by omega)
    have v6 : IntKind.i64.wrap (s / b * a + s % b * a / b) = s / b * a + s % b * a / b := IntWalk.i64_in _ (by omega)
    rw [← hsp]
    clear hsp
    by_cases hn : 1099511627776 < s / b * a + s % b * a / b
    · rw [capV_no hn, capE_no hn]
      go_enter Try.func22, Try.ntmps22
      go_wp2
      go_quiet (fail)
      go_wp2
      go_quiet (fail)
      go_wp2
      go_ret2
      exact ⟨rfl, _, rfl⟩
    · rw [capV_yes (by omega), capE_yes (by omega)]
      go_enter Try.func22, Try.ntmps22
      go_wp2
      go_quiet (fail)
      go_wp2
      go_quiet (fail)
      go_wp2
      go_ret2
      exact ⟨rfl, _, rfl⟩

theorem refValue_quiet (s a b : Int) (w : World) (s0 : 0 ≤ s) (s1 : s ≤ 1099511627776) (a0 : 1 ≤ a) (a1 : a ≤ 1073741824) (b0 : 1 ≤ b) (b1 : b ≤ 1073741824) :
    Calls Try.prog 22 #[.int .i64 s, .int .i64 a, .int .i64 b] w fun e w' => e = .returned (.tuple #[.int .i64 (capV 1099511627776 (s * a / b)), .int .i64 (capE 1099511627776 (s * a / b))]) ∧ ∃ n, w' = w.drewN n :=
  refValue_any s a b w s0 s1 a0 a1 b0 b1

theorem Same.trans {a b c : World} (h : Same a b) (k : Same b c) : Same a c := by
  obtain ⟨n, rfl⟩ := h
  obtain ⟨m, rfl⟩ := k
  exact ⟨n + m, by rw [World.drewN_drewN]⟩
theorem RR.same {w w' : World} {B : Nat} {A : Option Addr} {rs : List Rate} (h : RR w B A rs) (hs : Same w w') : RR w' B A rs := by
  obtain ⟨n, rfl⟩ := hs
  exact h

theorem RR.cells {w : World} {B : Nat} {A : Option Addr} {rs : List Rate} (h : RR w B A rs) {k : Nat} {r : Rate} (hk : rs[k]? = some r) :
    ∃ b off, A = some ⟨b, off, none⟩ ∧ RCell w b (off + k * 5) r := by
  have hne : rs ≠ [] := by rintro rfl; simp at hk
  obtain ⟨b, off, rfl, _, hc⟩ := h.2 hne
  exact ⟨b, off, rfl, hc k r hk⟩

theorem cVal_bad {rs : List Rate} {s f t day : Int} (h : ¬ cOk rs s day) : cVal rs s f t day = 0 := by unfold cVal; rw [if_neg h]
theorem cErr_bad {rs : List Rate} {s f t day : Int} (h : ¬ cOk rs s day) : cErr rs s f t day = 1 := by unfold cErr; rw [if_neg h]

set_option maxHeartbeats 4000000 in
theorem refConvert_any (A : Option Addr) (B c : Nat) (rs : List Rate) (s f t day : Int) (w : World) (hr : RR w B A rs) :
    Calls Try.prog 14 #[.slice A rs.length c, .int .i64 s, .int .i64 f, .int .i64 t, .int .i64 day] w fun e w' =>
      e = .returned (.tuple #[.int .i64 (cVal rs s f t day), .int .i64 (cErr rs s f t day)]) ∧ Same w w' := by
  have hlen := hr.1.1
  have Hr := Lib.hid hr
  clear hr
  by_cases hh : rs.length ≤ 100 ∧ sumOk s ∧ dayOk day
  · obtain ⟨h100, ⟨s0, s1⟩, d0, d1⟩ := id hh
    have hw1 := within_yes s0 s1
    have hw2 := within_yes d0 d1
    have Hh := Lib.hid hh
    clear hh
    go_enter Try.func14, Try.ntmps14
    go_wp2_with (first | (go_at_call 19; refine (refSum_any _ _).mono ?_; rintro e w' ⟨rfl, rfl⟩) | (go_at_call 20; refine (refDay_any _ _).mono ?_; rintro e w' ⟨rfl, rfl⟩))
    go_loop [12] (fun i => ∃ k : Nat, k ≤ rs.length ∧ i = .int .i64 k ∧ Hid (∀ r ∈ rs.take k, rOk r)) (fun i => rs.length - (intOf i).toNat)
    case atStart => exact ⟨0, Nat.zero_le _, rfl, fun r h => by simp at h⟩
    case round =>
      obtain ⟨k, hk, rfl, HO⟩ := hrel
      by_cases hlt : k < rs.length
      · obtain ⟨r, hrk⟩ : ∃ r, rs[k]? = some r := ⟨_, List.getElem?_eq_getElem hlt⟩
        obtain ⟨b, off, rfl, c1, c2, c3, c4, c5⟩ := Hr.out.cells hrk
        have Hrk := Lib.hid hrk
        clear hrk
        by_cases ho : rOk r
        · obtain ⟨o1, o2, o3, o4⟩ := id ho
          have Ho := Lib.hid ho
          clear ho
          go_wp2
          go_round
          case rel =>
            refine ⟨k + 1, by omega, by go_num, ?_⟩
            intro q hq
            rw [List.take_add_one, Hrk.out] at hq
            simp at hq
            rcases hq with hq | rfl
            · exact HO.out q hq
            · exact Ho.out
          case measure => simp [intOf]; omega
        · have hbad : ¬ cOk rs s day := fun h => ho (h.2.2.2 r (List.mem_of_getElem? Hrk.out))
          have Hv := Lib.hid (cVal_bad (f := f) (t := t) hbad).symm
          have He := Lib.hid (cErr_bad (f := f) (t := t) hbad).symm
          have Ho := Lib.hid ho
          clear ho hbad
          go_wp2
          all_goals first | (go_ret2; exact ⟨ret_two Hv.out He.out, 0, rfl⟩) | (exfalso; exact Ho.out ⟨by omega, by omega, by omega, by omega⟩)
      · obtain rfl : k = rs.length := by omega
        have hok : cOk rs s day := ⟨Hh.out.1, Hh.out.2.1, Hh.out.2.2, fun r h => HO.out r (by rwa [List.take_length])⟩
        have Hok := Lib.hid hok
        clear hok HO
        have hv : cVal rs s f t day = if f = t then s else match which rs f t day with | some p => capV 1099511627776 (s * p.1 / p.2) | none => 0 := by unfold cVal; rw [if_pos Hok.out]; rfl
        have he : cErr rs s f t day = if f = t then 0 else match which rs f t day with | some p => capE 1099511627776 (s * p.1 / p.2) | none => 4 := by unfold cErr; rw [if_pos Hok.out]; rfl
        by_cases hft : f = t
        · rw [if_pos hft] at hv he
          have Hv := Lib.hid hv.symm
          have He := Lib.hid he.symm
          have b1 : (f == t) = true := by simp [hft]
          clear hft hv he
          go_wp2
          go_ret2
          exact ⟨ret_two Hv.out He.out, 0, rfl⟩
        · rw [if_neg hft] at hv he
          have b1 : (f == t) = false := by simp [hft]
          clear hft
          unfold which at hv he
          cases hf1 : find rs f t day with
          | some r =>
            rw [hf1] at hv he
            have Hv := Lib.hid hv.symm
            have He := Lib.hid he.symm
            have Hf1 := Lib.hid hf1
            clear hf1 hv he
            go_wp2_with fail
            refine (refFind_any A B c rs f t day w Hr.out).mono ?_
            rintro e w1 ⟨⟨x, rfl, hx⟩, hs1⟩
            have Hr1 := Lib.hid (Hr.out.same hs1)
            rw [Hf1.out] at hx
            obtain ⟨j, hj, hjr, rfl⟩ := hx
            obtain ⟨b, off, rfl, c1, c2, c3, c4, c5⟩ := Hr1.out.cells hjr
            have hro := Hok.out.2.2.2 r (List.mem_of_getElem? hjr)
            obtain ⟨o1, o2, o3, o4⟩ := hro
            clear hjr
            go_wp2
            go_quiet ((go_at_call 22; refine Calls.quiet_of (refValue_quiet _ _ _ _ s0 s1 o1 o2 o3 o4)))
            go_wp2
            go_ret2
            exact ⟨ret_two Hv.out He.out, hs1.trans ⟨_, rfl⟩⟩
          | none =>
            rw [hf1] at hv he
            have Hf1 := Lib.hid hf1
            clear hf1
            cases hf2 : find rs t f day with
            | some r =>
              rw [hf2] at hv he
              have Hv := Lib.hid hv.symm
              have He := Lib.hid he.symm
              have Hf2 := Lib.hid hf2
              clear hf2 hv he
              go_wp2_with fail
              refine (refFind_any A B c rs f t day w Hr.out).mono ?_
              rintro e w1 ⟨⟨x, rfl, hx⟩, hs1⟩
              have Hr1 := Lib.hid (Hr.out.same hs1)
              rw [Hf1.out] at hx
              obtain rfl : x = Value.int .i64 (-1) := hx
              go_wp2_with fail
              refine (refFind_any A B c rs t f day _ Hr1.out).mono ?_
              rintro e w2 ⟨⟨x, rfl, hx⟩, hs2⟩
              have Hr2 := Lib.hid (Hr1.out.same hs2)
              rw [Hf2.out] at hx
              obtain ⟨j, hj, hjr, rfl⟩ := hx
              obtain ⟨b, off, rfl, c1, c2, c3, c4, c5⟩ := Hr2.out.cells hjr
              have hro := Hok.out.2.2.2 r (List.mem_of_getElem? hjr)
              obtain ⟨o1, o2, o3, o4⟩ := hro
              clear hjr
              go_wp2
              go_quiet ((go_at_call 22; refine Calls.quiet_of (refValue_quiet _ _ _ _ s0 s1 o3 o4 o1 o2)))
              go_wp2
              go_ret2
              exact ⟨ret_two Hv.out He.out, (hs1.trans hs2).trans ⟨_, rfl⟩⟩
            | none =>
              rw [hf2] at hv he
              have Hv := Lib.hid hv.symm
              have He := Lib.hid he.symm
              have Hf2 := Lib.hid hf2
              clear hf2 hv he
              go_wp2_with fail
              refine (refFind_any A B c rs f t day w Hr.out).mono ?_
              rintro e w1 ⟨⟨x, rfl, hx⟩, hs1⟩
              have Hr1 := Lib.hid (Hr.out.same hs1)
              rw [Hf1.out] at hx
              obtain rfl : x = Value.int .i64 (-1) := hx
              go_wp2_with fail
              refine (refFind_any A B c rs t f day _ Hr1.out).mono ?_
              rintro e w2 ⟨⟨x, rfl, hx⟩, hs2⟩
              have Hr2 := Lib.hid (Hr1.out.same hs2)
              rw [Hf2.out] at hx
              obtain rfl : x = Value.int .i64 (-1) := hx
              go_wp2
              go_ret2
              exact ⟨ret_two Hv.out He.out, hs1.trans hs2⟩
  · have hbad : ¬ cOk rs s day := fun h => hh ⟨h.1, h.2.1, h.2.2.1⟩
    rw [cVal_bad hbad, cErr_bad hbad]
    have Hh := Lib.hid hh
    clear hh hbad
    go_enter Try.func14, Try.ntmps14
    go_wp2_with (first | (go_at_call 19; refine (refSum_any _ _).mono ?_; rintro e w' ⟨rfl, rfl⟩) | (go_at_call 20; refine (refDay_any _ _).mono ?_; rintro e w' ⟨rfl, rfl⟩))
    all_goals first | (go_ret2; exact ⟨rfl, 0, rfl⟩) | skip
    all_goals
      exfalso
      have hb1 : withinB s 1099511627776 = true := by assumption
      first
        | (have hb2 : withinB day 100000 = true := by assumption
           exact Hh.out ⟨by omega, within_of hb1, within_of hb2⟩)
        | (have hb2 : (!withinB day 100000) = false := by assumption
           exact Hh.out ⟨by omega, within_of hb1, within_not hb2⟩)
        | (have hb2 : (rs.length : Int) ≤ 100 ∧ (!withinB day 100000) = false := by assumption
           exact Hh.out ⟨by omega, within_of hb1, within_not hb2.2⟩)

end Go.Proofs.Ytphbgobdkmjijaa
