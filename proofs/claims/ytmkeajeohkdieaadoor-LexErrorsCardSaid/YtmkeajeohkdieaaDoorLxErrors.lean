/- The statement LexErrors, walked. -/
import Derived.Test.YtmkeajeohkdieaaDoorLxJoins
import Derived.Outline
namespace Go.Proofs.YtmkeajeohkdieaaDoor
open Go.RowKit Lx
set_option linter.unusedSimpArgs false
set_option linter.unusedVariables false

/-- a text that is filled up with blanks -/
def fillV (n : Nat) : ByteArray := ⟨(List.replicate n 32).toArray⟩
theorem fillV_bs (n : Nat) : bs (fillV n) = List.replicate n 32 := rfl
theorem fillV_size (n : Nat) : (fillV n).size = n := by rw [← bs_len, fillV_bs, List.length_replicate]
theorem fillV_add (n : Nat) : fillV n ++ fillV n = fillV (n + n) := by
  apply bs_inj
  rw [bs_append, fillV_bs, fillV_bs, List.replicate_append_replicate]
theorem fillV_cut {n m : Nat} (h : m ≤ n) : (fillV n).extract 0 m = fillV m := by
  apply bs_inj
  rw [bs_upto, fillV_bs, fillV_bs, List.take_replicate, Nat.min_eq_left h]
theorem fill_bs (t : ByteArray) (m : Nat) : bs (t ++ ⟨#[10]⟩ ++ fillV m) = bs t ++ 10 :: List.replicate m 32 := by
  rw [bs_append, bs_append, fillV_bs]; show bs t ++ [10] ++ _ = _; simp
theorem fill_size (t : ByteArray) (m : Nat) : (t ++ ⟨#[10]⟩ ++ fillV m).size = t.size + 1 + m := by
  simp only [ByteArray.size_append, fillV_size]; rfl
theorem fill_scan (x : List UInt8) (m : Nat) : scan false (x ++ 10 :: List.replicate m 32) 0 = scan false x 0 := by
  rw [scan_join, scan_blanks]
  split
  · rename_i h
    have h0 := scan_ok_at false x 0 h
    generalize scan false x 0 = R at *
    obtain ⟨a, b, c⟩ := R
    simp only at h h0
    subst h; subst h0
    simp [pre, done]
  · rfl
theorem fill_call (t : ByteArray) (R : Res) (hR : R = scan false (bs t) 0) (m : Nat) (hm : t.size + 1 + m ≤ 20000) (w : World) (hsg : Signs w) :
    Calls Tryd.prog 10 #[.string (t ++ ⟨#[10]⟩ ++ fillV m)] w (ScanEnd w R) :=
  scan_call _ R (by rw [fill_bs, fill_scan]; exact hR) (by rw [fill_size]; exact hm) w hsg
theorem full_call (t : ByteArray) (m : Nat) (hm : 20000 < t.size + 1 + m) (h2 : t.size + 1 + m ≤ 100000) (w : World) (hsg : Signs w) :
    Calls Tryd.prog 10 #[.string (t ++ ⟨#[10]⟩ ++ fillV m)] w (ScanEnd w ⟨[], 0, 6⟩) := by
  have hR : scanR (bs (t ++ ⟨#[10]⟩ ++ fillV m)) = ⟨[], 0, 6⟩ := by unfold scanR; rw [bs_len, fill_size, if_pos hm]
  rw [← hR]
  exact scan_any _ w (by rw [fill_size]; omega) hsg
theorem fill_ten : (⟨#[32, 32, 32, 32, 32, 32, 32, 32, 32, 32]⟩ : ByteArray) = fillV 10 := rfl

set_option maxRecDepth 100000 in
set_option maxHeartbeats 8000000 in
theorem errors_any (s : ByteArray) (full : Bool) (w : World) (hs : s.size ≤ 9223372036854775807) (hsg : Signs w) :
    Calls Tryd.prog 6 #[.string s, .bool full] w fun e w' => e = .returned (.bool true) ∧ Way w w' := by
  obtain ⟨t, ht⟩ : ∃ t : ByteArray, t = ⟨((bs s).take 900).toArray⟩ := ⟨_, rfl⟩
  have hcut := fun w => cut_any s w hs
  rw [← ht] at hcut
  have hsz : t.size ≤ 900 := by rw [ht, size_mk', List.length_take]; omega
  have hlb := bs_len t
  clear ht hs
  obtain ⟨R, hR⟩ : ∃ R, R = scan false (bs t) 0 := ⟨_, rfl⟩
  have hscan := fun w h => scan_call t R hR (by omega) w h
  have hfill := fun m hm w h => fill_call t R hR m hm w h
  have hfull := fun m hm h2 w h => full_call t m hm h2 w h
  have HC := Lib.hid hcut
  have HS := Lib.hid hscan
  have HF := Lib.hid hfill
  have HFF := Lib.hid hfull
  have HLB := Lib.hid hlb
  have W0 := Lib.hid (Way.refl hsg)
  have h10 : (⟨#[10]⟩ : ByteArray).size = 1 := rfl
  clear hcut hscan hfill hfull hsg hlb
  obtain ⟨ts, at1, e1⟩ := R
  have hk : e1 = 0 ∨ e1 = 3 ∨ e1 = 20 ∨ e1 = 21 := by
    by_cases h : e1 = 0
    · exact .inl h
    · obtain ⟨d, _, _, _, _, _, h6⟩ := scan_fails false (bs t) 0 (by rw [← hR]; exact h)
      rw [← hR] at h6
      exact .inr h6
  rcases hk with he | he | he | he
  · subst he
    clear hR
    cases full with
    | true =>
      go_enter Tryd.func6, Tryd.ntmps6
      go_wp2_with fail
      refine (sane_any _ W0.out.signs).mono ?_
      rintro e w1 ⟨rfl, hw⟩
      have W1 := Lib.hid hw
      clear hw W0
      go_wp2_with fail
      refine (HC.out _).mono ?_
      rintro e w' ⟨rfl, rfl⟩
      go_wp2_with fail
      refine (HS.out _ W1.out.signs).mono ?_
      rintro e w2 ⟨A2, c2, rfl, ho⟩
      have W2 := Lib.hid (W1.out.step ho.2.1)
      clear ho W1
      go_wp2_with fail
      go_loop [10] (fun v => ∃ u : ByteArray, v = .string u ∧ 10 ≤ u.size ∧ u.size ≤ 39998 ∧ Hid (u = fillV u.size)) (fun v => match v with | .string u => 40000 - u.size | _ => 0)
      case atStart => exact ⟨_, rfl, by decide, by decide, fill_ten⟩
      case round =>
        obtain ⟨u, rfl, hn, hn2, HU⟩ := hrel
        by_cases hlt : u.size < 20000
        · have hlt' : (u.size : Int) < 20000 := by omega
          have HU2 := Lib.hid (show u ++ u = fillV (u ++ u).size by rw [ByteArray.size_append]; have := HU.out; generalize u.size = n at *; subst this; exact fillV_add n)
          go_wp2
          go_round
          case rel => exact ⟨_, rfl, by rw [ByteArray.size_append]; omega, by rw [ByteArray.size_append]; omega, HU2.out⟩
          case measure => simp only [ByteArray.size_append]; omega
        · have hge : ¬ (u.size : Int) < 20000 := by omega
          have hx1 : u.extract 0 (20000 - (t.size + 1)) = fillV (20000 - (t.size + 1)) := by rw [HU.out]; exact fillV_cut (by omega)
          have hx2 : u.extract 0 (20001 - (t.size + 1)) = fillV (20001 - (t.size + 1)) := by rw [HU.out]; exact fillV_cut (by omega)
          have HX1 := Lib.hid hx1
          have HX2 := Lib.hid hx2
          clear hx1 hx2
          have hf1 := fun w h => HF.out (19999 - t.size) (by omega) w h
          have hf2 := fun w h => HFF.out (20000 - t.size) (by omega) (by omega) w h
          have e1' : u.extract 0 (19999 - t.size) = fillV (19999 - t.size) := by rw [HU.out]; exact fillV_cut (by omega)
          have e2' : u.extract 0 (20000 - t.size) = fillV (20000 - t.size) := by rw [HU.out]; exact fillV_cut (by omega)
          rw [← e1'] at hf1
          rw [← e2'] at hf2
          have HF1 := Lib.hid hf1
          have HF2 := Lib.hid hf2
          clear hf1 hf2 e1' e2'
          go_wp2_with fail
          refine (HF1.out _ W2.out.signs).mono ?_
          rintro e w3 ⟨A3, c3, rfl, ho⟩
          have W3 := Lib.hid (W2.out.step ho.2.1)
          clear ho W2
          go_wp2_with fail
          refine (HF2.out _ W3.out.signs).mono ?_
          rintro e w4 ⟨A4, c4, rfl, ho⟩
          have W4 := Lib.hid (W3.out.step ho.2.1)
          clear ho W3
          go_wp2_with fail
          go_ret
          exact ⟨rfl, W4.out⟩
    | false =>
      go_enter Tryd.func6, Tryd.ntmps6
      go_wp2_with fail
      refine (sane_any _ W0.out.signs).mono ?_
      rintro e w1 ⟨rfl, hw⟩
      have W1 := Lib.hid hw
      clear hw W0
      go_wp2_with fail
      refine (HC.out _).mono ?_
      rintro e w' ⟨rfl, rfl⟩
      go_wp2_with fail
      refine (HS.out _ W1.out.signs).mono ?_
      rintro e w2 ⟨A2, c2, rfl, ho⟩
      have W2 := Lib.hid (W1.out.step ho.2.1)
      clear ho W1
      go_wp2_with fail
      go_ret
      exact ⟨rfl, W2.out⟩
  · subst he
    obtain ⟨d, d1, d2, d3, d4, d5, _⟩ := scan_fails false (bs t) 0 (by rw [← hR]; show (3 : Int) ≠ 0; decide)
    rw [← hR] at d2 d3 d5
    rw [HLB.out] at d1
    simp only at d2 d3 d5
    subst d3
    obtain rfl : at1 = d := by omega
    obtain ⟨Ra, hRa⟩ : ∃ Ra, Ra = scan false (bs (t.extract 0 at1)) 0 := ⟨_, rfl⟩
    have ha := fun w h => scan_call (t.extract 0 at1) Ra hRa (by rw [← bs_len, bs_upto, List.length_take, HLB.out]; omega) w h
    have hae : Ra.err = 0 := by rw [hRa, bs_upto]; exact d4
    have hz := fun w h => scan_call (t.extract at1 t.size) ⟨[], 0, 3⟩ (by rw [bs_from]; exact (d5 0).symm) (by rw [← bs_len, bs_from, List.length_drop, HLB.out]; omega) w h
    obtain ⟨tra, aa, ea⟩ := Ra
    simp only at hae
    subst hae
    have HA := Lib.hid ha
    have HZ := Lib.hid hz
    clear hR d2 d4 d5 hRa ha hz
    cases full with
    | true =>
      go_enter Tryd.func6, Tryd.ntmps6
      go_wp2_with fail
      refine (sane_any _ W0.out.signs).mono ?_
      rintro e w1 ⟨rfl, hw⟩
      have W1 := Lib.hid hw
      clear hw W0
      go_wp2_with fail
      refine (HC.out _).mono ?_
      rintro e w' ⟨rfl, rfl⟩
      go_wp2_with fail
      refine (HS.out _ W1.out.signs).mono ?_
      rintro e w2 ⟨A2, c2, rfl, ho⟩
      have W2 := Lib.hid (W1.out.step ho.2.1)
      clear ho W1
      go_wp2_with fail
      go_loop [10] (fun v => ∃ u : ByteArray, v = .string u ∧ 10 ≤ u.size ∧ u.size ≤ 39998 ∧ Hid (u = fillV u.size)) (fun v => match v with | .string u => 40000 - u.size | _ => 0)
      case atStart => exact ⟨_, rfl, by decide, by decide, fill_ten⟩
      case round =>
        obtain ⟨u, rfl, hn, hn2, HU⟩ := hrel
        by_cases hlt : u.size < 20000
        · have hlt' : (u.size : Int) < 20000 := by omega
          have HU2 := Lib.hid (show u ++ u = fillV (u ++ u).size by rw [ByteArray.size_append]; have := HU.out; generalize u.size = n at *; subst this; exact fillV_add n)
          go_wp2
          go_round
          case rel => exact ⟨_, rfl, by rw [ByteArray.size_append]; omega, by rw [ByteArray.size_append]; omega, HU2.out⟩
          case measure => simp only [ByteArray.size_append]; omega
        · have hge : ¬ (u.size : Int) < 20000 := by omega
          have hx1 : u.extract 0 (20000 - (t.size + 1)) = fillV (20000 - (t.size + 1)) := by rw [HU.out]; exact fillV_cut (by omega)
          have hx2 : u.extract 0 (20001 - (t.size + 1)) = fillV (20001 - (t.size + 1)) := by rw [HU.out]; exact fillV_cut (by omega)
          have HX1 := Lib.hid hx1
          have HX2 := Lib.hid hx2
          clear hx1 hx2
          have hf1 := fun w h => HF.out (19999 - t.size) (by omega) w h
          have hf2 := fun w h => HFF.out (20000 - t.size) (by omega) (by omega) w h
          have e1' : u.extract 0 (19999 - t.size) = fillV (19999 - t.size) := by rw [HU.out]; exact fillV_cut (by omega)
          have e2' : u.extract 0 (20000 - t.size) = fillV (20000 - t.size) := by rw [HU.out]; exact fillV_cut (by omega)
          rw [← e1'] at hf1
          rw [← e2'] at hf2
          have HF1 := Lib.hid hf1
          have HF2 := Lib.hid hf2
          clear hf1 hf2 e1' e2'
          go_wp2_with fail
          refine (HF1.out _ W2.out.signs).mono ?_
          rintro e w3 ⟨A3, c3, rfl, ho⟩
          have W3 := Lib.hid (W2.out.step ho.2.1)
          clear ho W2
          go_wp2_with fail
          refine (HF2.out _ W3.out.signs).mono ?_
          rintro e w4 ⟨A4, c4, rfl, ho⟩
          have W4 := Lib.hid (W3.out.step ho.2.1)
          clear ho W3
          go_wp2_with fail
          refine (HA.out _ W4.out.signs).mono ?_
          rintro e w5 ⟨A5, c5, rfl, ho⟩
          have W5 := Lib.hid (W4.out.step ho.2.1)
          clear ho W4
          go_wp2_with fail
          refine (HZ.out _ W5.out.signs).mono ?_
          rintro e w6 ⟨A6, c6, rfl, ho⟩
          have W6 := Lib.hid (W5.out.step ho.2.1)
          clear ho W5
          go_wp2_with fail
          go_ret
          exact ⟨rfl, W6.out⟩
    | false =>
      go_enter Tryd.func6, Tryd.ntmps6
      go_wp2_with fail
      refine (sane_any _ W0.out.signs).mono ?_
      rintro e w1 ⟨rfl, hw⟩
      have W1 := Lib.hid hw
      clear hw W0
      go_wp2_with fail
      refine (HC.out _).mono ?_
      rintro e w' ⟨rfl, rfl⟩
      go_wp2_with fail
      refine (HS.out _ W1.out.signs).mono ?_
      rintro e w2 ⟨A2, c2, rfl, ho⟩
      have W2 := Lib.hid (W1.out.step ho.2.1)
      clear ho W1
      go_wp2_with fail
      refine (HA.out _ W2.out.signs).mono ?_
      rintro e w3 ⟨A3, c3, rfl, ho⟩
      have W3 := Lib.hid (W2.out.step ho.2.1)
      clear ho W2
      go_wp2_with fail
      refine (HZ.out _ W3.out.signs).mono ?_
      rintro e w4 ⟨A4, c4, rfl, ho⟩
      have W4 := Lib.hid (W3.out.step ho.2.1)
      clear ho W3
      go_wp2_with fail
      go_ret
      exact ⟨rfl, W4.out⟩
  · subst he
    obtain ⟨d, d1, d2, d3, d4, d5, _⟩ := scan_fails false (bs t) 0 (by rw [← hR]; show (20 : Int) ≠ 0; decide)
    rw [← hR] at d2 d3 d5
    rw [HLB.out] at d1
    simp only at d2 d3 d5
    subst d3
    obtain rfl : at1 = d := by omega
    obtain ⟨Ra, hRa⟩ : ∃ Ra, Ra = scan false (bs (t.extract 0 at1)) 0 := ⟨_, rfl⟩
    have ha := fun w h => scan_call (t.extract 0 at1) Ra hRa (by rw [← bs_len, bs_upto, List.length_take, HLB.out]; omega) w h
    have hae : Ra.err = 0 := by rw [hRa, bs_upto]; exact d4
    have hz := fun w h => scan_call (t.extract at1 t.size) ⟨[], 0, 20⟩ (by rw [bs_from]; exact (d5 0).symm) (by rw [← bs_len, bs_from, List.length_drop, HLB.out]; omega) w h
    obtain ⟨tra, aa, ea⟩ := Ra
    simp only at hae
    subst hae
    have HA := Lib.hid ha
    have HZ := Lib.hid hz
    clear hR d2 d4 d5 hRa ha hz
    cases full with
    | true =>
      go_enter Tryd.func6, Tryd.ntmps6
      go_wp2_with fail
      refine (sane_any _ W0.out.signs).mono ?_
      rintro e w1 ⟨rfl, hw⟩
      have W1 := Lib.hid hw
      clear hw W0
      go_wp2_with fail
      refine (HC.out _).mono ?_
      rintro e w' ⟨rfl, rfl⟩
      go_wp2_with fail
      refine (HS.out _ W1.out.signs).mono ?_
      rintro e w2 ⟨A2, c2, rfl, ho⟩
      have W2 := Lib.hid (W1.out.step ho.2.1)
      clear ho W1
      go_wp2_with fail
      go_loop [10] (fun v => ∃ u : ByteArray, v = .string u ∧ 10 ≤ u.size ∧ u.size ≤ 39998 ∧ Hid (u = fillV u.size)) (fun v => match v with | .string u => 40000 - u.size | _ => 0)
      case atStart => exact ⟨_, rfl, by decide, by decide, fill_ten⟩
      case round =>
        obtain ⟨u, rfl, hn, hn2, HU⟩ := hrel
        by_cases hlt : u.size < 20000
        · have hlt' : (u.size : Int) < 20000 := by omega
          have HU2 := Lib.hid (show u ++ u = fillV (u ++ u).size by rw [ByteArray.size_append]; have := HU.out; generalize u.size = n at *; subst this; exact fillV_add n)
          go_wp2
          go_round
          case rel => exact ⟨_, rfl, by rw [ByteArray.size_append]; omega, by rw [ByteArray.size_append]; omega, HU2.out⟩
          case measure => simp only [ByteArray.size_append]; omega
        · have hge : ¬ (u.size : Int) < 20000 := by omega
          have hx1 : u.extract 0 (20000 - (t.size + 1)) = fillV (20000 - (t.size + 1)) := by rw [HU.out]; exact fillV_cut (by omega)
          have hx2 : u.extract 0 (20001 - (t.size + 1)) = fillV (20001 - (t.size + 1)) := by rw [HU.out]; exact fillV_cut (by omega)
          have HX1 := Lib.hid hx1
          have HX2 := Lib.hid hx2
          clear hx1 hx2
          have hf1 := fun w h => HF.out (19999 - t.size) (by omega) w h
          have hf2 := fun w h => HFF.out (20000 - t.size) (by omega) (by omega) w h
          have e1' : u.extract 0 (19999 - t.size) = fillV (19999 - t.size) := by rw [HU.out]; exact fillV_cut (by omega)
          have e2' : u.extract 0 (20000 - t.size) = fillV (20000 - t.size) := by rw [HU.out]; exact fillV_cut (by omega)
          rw [← e1'] at hf1
          rw [← e2'] at hf2
          have HF1 := Lib.hid hf1
          have HF2 := Lib.hid hf2
          clear hf1 hf2 e1' e2'
          go_wp2_with fail
          refine (HF1.out _ W2.out.signs).mono ?_
          rintro e w3 ⟨A3, c3, rfl, ho⟩
          have W3 := Lib.hid (W2.out.step ho.2.1)
          clear ho W2
          go_wp2_with fail
          refine (HF2.out _ W3.out.signs).mono ?_
          rintro e w4 ⟨A4, c4, rfl, ho⟩
          have W4 := Lib.hid (W3.out.step ho.2.1)
          clear ho W3
          go_wp2_with fail
          refine (HA.out _ W4.out.signs).mono ?_
          rintro e w5 ⟨A5, c5, rfl, ho⟩
          have W5 := Lib.hid (W4.out.step ho.2.1)
          clear ho W4
          go_wp2_with fail
          refine (HZ.out _ W5.out.signs).mono ?_
          rintro e w6 ⟨A6, c6, rfl, ho⟩
          have W6 := Lib.hid (W5.out.step ho.2.1)
          clear ho W5
          go_wp2_with fail
          go_ret
          exact ⟨rfl, W6.out⟩
    | false =>
      go_enter Tryd.func6, Tryd.ntmps6
      go_wp2_with fail
      refine (sane_any _ W0.out.signs).mono ?_
      rintro e w1 ⟨rfl, hw⟩
      have W1 := Lib.hid hw
      clear hw W0
      go_wp2_with fail
      refine (HC.out _).mono ?_
      rintro e w' ⟨rfl, rfl⟩
      go_wp2_with fail
      refine (HS.out _ W1.out.signs).mono ?_
      rintro e w2 ⟨A2, c2, rfl, ho⟩
      have W2 := Lib.hid (W1.out.step ho.2.1)
      clear ho W1
      go_wp2_with fail
      refine (HA.out _ W2.out.signs).mono ?_
      rintro e w3 ⟨A3, c3, rfl, ho⟩
      have W3 := Lib.hid (W2.out.step ho.2.1)
      clear ho W2
      go_wp2_with fail
      refine (HZ.out _ W3.out.signs).mono ?_
      rintro e w4 ⟨A4, c4, rfl, ho⟩
      have W4 := Lib.hid (W3.out.step ho.2.1)
      clear ho W3
      go_wp2_with fail
      go_ret
      exact ⟨rfl, W4.out⟩
  · subst he
    obtain ⟨d, d1, d2, d3, d4, d5, _⟩ := scan_fails false (bs t) 0 (by rw [← hR]; show (21 : Int) ≠ 0; decide)
    rw [← hR] at d2 d3 d5
    rw [HLB.out] at d1
    simp only at d2 d3 d5
    subst d3
    obtain rfl : at1 = d := by omega
    obtain ⟨Ra, hRa⟩ : ∃ Ra, Ra = scan false (bs (t.extract 0 at1)) 0 := ⟨_, rfl⟩
    have ha := fun w h => scan_call (t.extract 0 at1) Ra hRa (by rw [← bs_len, bs_upto, List.length_take, HLB.out]; omega) w h
    have hae : Ra.err = 0 := by rw [hRa, bs_upto]; exact d4
    have hz := fun w h => scan_call (t.extract at1 t.size) ⟨[], 0, 21⟩ (by rw [bs_from]; exact (d5 0).symm) (by rw [← bs_len, bs_from, List.length_drop, HLB.out]; omega) w h
    obtain ⟨tra, aa, ea⟩ := Ra
    simp only at hae
    subst hae
    have HA := Lib.hid ha
    have HZ := Lib.hid hz
    clear hR d2 d4 d5 hRa ha hz
    cases full with
    | true =>
      go_enter Tryd.func6, Tryd.ntmps6
      go_wp2_with fail
      refine (sane_any _ W0.out.signs).mono ?_
      rintro e w1 ⟨rfl, hw⟩
      have W1 := Lib.hid hw
      clear hw W0
      go_wp2_with fail
      refine (HC.out _).mono ?_
      rintro e w' ⟨rfl, rfl⟩
      go_wp2_with fail
      refine (HS.out _ W1.out.signs).mono ?_
      rintro e w2 ⟨A2, c2, rfl, ho⟩
      have W2 := Lib.hid (W1.out.step ho.2.1)
      clear ho W1
      go_wp2_with fail
      go_loop [10] (fun v => ∃ u : ByteArray, v = .string u ∧ 10 ≤ u.size ∧ u.size ≤ 39998 ∧ Hid (u = fillV u.size)) (fun v => match v with | .string u => 40000 - u.size | _ => 0)
      case atStart => exact ⟨_, rfl, by decide, by decide, fill_ten⟩
      case round =>
        obtain ⟨u, rfl, hn, hn2, HU⟩ := hrel
        by_cases hlt : u.size < 20000
        · have hlt' : (u.size : Int) < 20000 := by omega
          have HU2 := Lib.hid (show u ++ u = fillV (u ++ u).size by rw [ByteArray.size_append]; have := HU.out; generalize u.size = n at *; subst this; exact fillV_add n)
          go_wp2
          go_round
          case rel => exact ⟨_, rfl, by rw [ByteArray.size_append]; omega, by rw [ByteArray.size_append]; omega, HU2.out⟩
          case measure => simp only [ByteArray.size_append]; omega
        · have hge : ¬ (u.size : Int) < 20000 := by omega
          have hx1 : u.extract 0 (20000 - (t.size + 1)) = fillV (20000 - (t.size + 1)) := by rw [HU.out]; exact fillV_cut (by omega)
          have hx2 : u.extract 0 (20001 - (t.size + 1)) = fillV (20001 - (t.size + 1)) := by rw [HU.out]; exact fillV_cut (by omega)
          have HX1 := Lib.hid hx1
          have HX2 := Lib.hid hx2
          clear hx1 hx2
          have hf1 := fun w h => HF.out (19999 - t.size) (by omega) w h
          have hf2 := fun w h => HFF.out (20000 - t.size) (by omega) (by omega) w h
          have e1' : u.extract 0 (19999 - t.size) = fillV (19999 - t.size) := by rw [HU.out]; exact fillV_cut (by omega)
          have e2' : u.extract 0 (20000 - t.size) = fillV (20000 - t.size) := by rw [HU.out]; exact fillV_cut (by omega)
          rw [← e1'] at hf1
          rw [← e2'] at hf2
          have HF1 := Lib.hid hf1
          have HF2 := Lib.hid hf2
          clear hf1 hf2 e1' e2'
          go_wp2_with fail
          refine (HF1.out _ W2.out.signs).mono ?_
          rintro e w3 ⟨A3, c3, rfl, ho⟩
          have W3 := Lib.hid (W2.out.step ho.2.1)
          clear ho W2
          go_wp2_with fail
          refine (HF2.out _ W3.out.signs).mono ?_
          rintro e w4 ⟨A4, c4, rfl, ho⟩
          have W4 := Lib.hid (W3.out.step ho.2.1)
          clear ho W3
          go_wp2_with fail
          refine (HA.out _ W4.out.signs).mono ?_
          rintro e w5 ⟨A5, c5, rfl, ho⟩
          have W5 := Lib.hid (W4.out.step ho.2.1)
          clear ho W4
          go_wp2_with fail
          refine (HZ.out _ W5.out.signs).mono ?_
          rintro e w6 ⟨A6, c6, rfl, ho⟩
          have W6 := Lib.hid (W5.out.step ho.2.1)
          clear ho W5
          go_wp2_with fail
          go_ret
          exact ⟨rfl, W6.out⟩
    | false =>
      go_enter Tryd.func6, Tryd.ntmps6
      go_wp2_with fail
      refine (sane_any _ W0.out.signs).mono ?_
      rintro e w1 ⟨rfl, hw⟩
      have W1 := Lib.hid hw
      clear hw W0
      go_wp2_with fail
      refine (HC.out _).mono ?_
      rintro e w' ⟨rfl, rfl⟩
      go_wp2_with fail
      refine (HS.out _ W1.out.signs).mono ?_
      rintro e w2 ⟨A2, c2, rfl, ho⟩
      have W2 := Lib.hid (W1.out.step ho.2.1)
      clear ho W1
      go_wp2_with fail
      refine (HA.out _ W2.out.signs).mono ?_
      rintro e w3 ⟨A3, c3, rfl, ho⟩
      have W3 := Lib.hid (W2.out.step ho.2.1)
      clear ho W2
      go_wp2_with fail
      refine (HZ.out _ W3.out.signs).mono ?_
      rintro e w4 ⟨A4, c4, rfl, ho⟩
      have W4 := Lib.hid (W3.out.step ho.2.1)
      clear ho W3
      go_wp2_with fail
      go_ret
      exact ⟨rfl, W4.out⟩

end Go.Proofs.YtmkeajeohkdieaaDoor
