/- DiskTears: what its walk wants, paid. -/
import Derived.Test.YtlfiooenbgegkaaDTr
import Derived.Test.YtlfiooenbgegkaaDFlushes
namespace Go.Proofs.Ytlfiooenbgegkaa
open Go.RowKit Ds
set_option linter.unusedVariables false

theorem half_left {s t : ByteArray} (hs : s.size = 16) (k : Nat) (hk : k < 8) (h : k < (half s t).size) (h' : k < s.size) : (half s t)[k] = s[k] := by
  unfold half at *
  rw [ByteArray.getElem_append_left (by rw [ByteArray.size_extract]; omega), ByteArray.getElem_extract]
  simp
theorem half_right {s t : ByteArray} (hs : s.size = 16) (k : Nat) (hk : 8 ≤ k) (h : k < (half s t).size) (h' : k < t.size) : (half s t)[k] = t[k] := by
  unfold half at *
  have e8 : (s.extract 0 8).size = 8 := by rw [ByteArray.size_extract]; omega
  rw [ByteArray.getElem_append_right (by omega), ByteArray.getElem_extract]
  congr 1
  omega
theorem tears_any (A : Option Addr) (c : Nat) (A' : Option Addr) (c' : Nat) (d : Dk) (at_ : Int) (w : World) (h : DiskAt w w.heap.size A c A' c' d) (hb : 0 ≤ at_ ∧ at_ ≤ 255) :
    Calls Try.prog 6 #[dv A c A' c' d, .int .u8 at_] w fun e w' => e = .returned (.bool true) ∧ Below w.heap.size w w' := by
  cases hr : lawRight d with
  | false => exact tears_no d d d d [] [] at_ 0 A c A' c' w h hid_small (hid_right d false hr)
  | true =>
    obtain ⟨r1, r2, hu⟩ := lawRight_true hr
    have hrd := (upE_zero.1 hu).1
    obtain ⟨a1, a2, a3, a4, a5⟩ := right_head hrd
    by_cases hp : d.pend.length = 0
    · exact tears_none d d d d [] [] at_ 0 A c A' c' w h hid_small (hid_right d true hr) (by simp [hp])
    · have k0 : 0 ≤ at_ % (d.pend.length : Int) := Int.emod_nonneg _ (by omega)
      have k1 : at_ % (d.pend.length : Int) < d.pend.length := Int.emod_lt_of_pos _ (by omega)
      obtain ⟨kn, hk⟩ : ∃ n : Nat, at_ % (d.pend.length : Int) = n := ⟨(at_ % (d.pend.length : Int)).toNat, by omega⟩
      have hkn : kn < d.pend.length := by omega
      have hau : upE ⟨d.secs, d.pend, (kn : Nat), d.down⟩ = 0 := left_up hu (by omega) (by omega)
      have haa : allB ⟨d.secs, d.pend, (kn : Nat), d.down⟩ = false := by simp only [allB, Bool.or_eq_false_iff, decide_eq_false_iff_not]; omega
      obtain ⟨wx, hx⟩ : ∃ x, d.pend[kn]? = some x := ⟨_, List.getElem?_eq_getElem hkn⟩
      obtain ⟨w0, w1, w2⟩ := right_wr hrd (List.mem_of_getElem? hx)
      have hoff : torn ⟨d.secs, d.pend, (kn : Nat), d.down⟩ = ⟨tear (puts d.secs (d.pend.take kn)) wx, [], -1, true⟩ := by
        unfold torn
        simp only [Int.toNat_natCast]
        rw [show d.pend.getD kn ⟨0, ByteArray.empty⟩ = wx by simp [List.getD, hx]]
      have hor := torn_right hau haa
      have hF := hid_flush _ _ _ (flush_tears hau haa).1 ((flush_tears hau haa).2.trans hoff)
      rw [hoff] at hor
      have hon := start_up hor rfl
      have hN := hid_start _ hor rfl
      have honv := (start_ok hor rfl).2
      rw [honv] at hon hN
      have hgot := reads_nil hon rfl
      have hfu := few_up hu kn
      have hfa : allB { d with left := -1, pend := d.pend.take kn } = true := by simp [allB]
      have hxu := flushed_up hfu hfa
      have hwant := reads_nil hxu rfl
      have hF2 : Hid (∀ A c A' c' w, DiskAt w w.heap.size A c A' c' ⟨d.secs, d.pend.take kn, -1, d.down⟩ → Calls Try.prog 19 #[.agg #[.slice A d.secs.length c, .slice A' kn c', .int .i64 (-1), .bool d.down]] w (DiskEnd w (flushed { d with left := -1, pend := d.pend.take kn }) 0)) := Lib.hid fun A c A' c' w hd => by
        have := flush_any A c A' c' _ w hd
        rw [show flushE ⟨d.secs, d.pend.take kn, -1, d.down⟩ = 0 from (flush_ok hfu hfa).1, show flushD ⟨d.secs, d.pend.take kn, -1, d.down⟩ = _ from (flush_ok hfu hfa).2] at this
        unfold dv dcells at this
        simp only [List.length_take, Nat.min_eq_left (Nat.le_of_lt hkn)] at this
        exact this
      have hP16 := puts16 (d.pend.take kn) d.secs (secs16 hrd) (fun y hy => (right_wr hrd (List.mem_of_mem_take hy)).2.2)
      have hPl := puts_len (d.pend.take kn) d.secs
      have hC1 := hid_conts _ _ hon hgot
      have hC2 := hid_conts _ _ hxu hwant
      have hwv : (flushed { d with left := -1, pend := d.pend.take kn }).secs = puts d.secs (d.pend.take kn) := rfl
      rw [hwv] at hC2
      generalize puts d.secs (d.pend.take kn) = P at *
      have hG : Hid (∀ i : Nat, i < d.secs.length → ∃ gs ws : ByteArray, (tear P wx)[i]? = some gs ∧ P[i]? = some ws ∧ gs.size = 16 ∧ ws.size = 16 ∧ ∀ k (h1 : k < gs.size) (h2 : k < ws.size) (h3 : k < wx.text.size), ((i : Int) = wx.at_ ∧ k < 8 → gs[k] = wx.text[k]) ∧ (¬ ((i : Int) = wx.at_ ∧ k < 8) → gs[k] = ws[k])) := Lib.hid fun i hi => by
        have hiP : i < P.length := by omega
        have hPi : P[i]? = some P[i] := List.getElem?_eq_getElem hiP
        have h16 : P[i].size = 16 := hP16 _ (List.getElem_mem hiP)
        by_cases he : (i : Int) = wx.at_
        · have hq : wx.at_.toNat = i := by omega
          have hg : P.getD wx.at_.toNat ByteArray.empty = P[i] := by rw [hq]; exact getD_of hPi
          have hs := half_size w2 h16
          refine ⟨half wx.text P[i], P[i], ?_, hPi, hs, h16, fun k h1 h2 h3 => ⟨fun hh => half_left w2 k hh.2 h1 h3, fun hh => half_right w2 k ?_ h1 h2⟩⟩
          · unfold tear; rw [hg, hq, List.getElem?_set_self hiP]
          · have : ¬ k < 8 := fun hk => hh ⟨he, hk⟩
            omega
        · have hq : wx.at_.toNat ≠ i := by omega
          refine ⟨P[i], P[i], ?_, hPi, h16, h16, fun k h1 h2 h3 => ⟨fun hh => absurd hh.1 he, fun _ => rfl⟩⟩
          unfold tear
          rw [List.getElem?_set_ne hq]; exact hPi
      exact tears_main d ⟨tear P wx, [], -1, true⟩ _ _ (tear P wx) P at_ kn A c A' c' w h hid_small (hid_right d true hr) (by simpa using hp) (by omega) hb.1 hb.2 hk hkn (by omega) a2 (hid_arm d kn hu (by omega) (by omega)) hF hN hC1 hF2 hC2
        (Lib.hid (by rw [tear_len]; exact hPl)) (Lib.hid hPl) (by simp) rfl (hid_check _ hor) wx (Lib.hid hx) w2 hG

end Go.Proofs.Ytlfiooenbgegkaa
