/- DiskParts: what its walk wants, paid. -/
import Derived.Test.YtlfiooenbgegkaaDPart
import Derived.Test.YtlfiooenbgegkaaDFlushes
namespace Go.Proofs.Ytlfiooenbgegkaa
open Go.RowKit Ds
set_option linter.unusedVariables false

theorem parts_any (A : Option Addr) (c : Nat) (A' : Option Addr) (c' : Nat) (d : Dk) (at_ : Int) (s : ByteArray) (w : World) (h : DiskAt w w.heap.size A c A' c' d) (hb : 0 ≤ at_ ∧ at_ ≤ 255) (hz : s.size ≤ 9223372036854775807) :
    Calls Try.prog 7 #[dv A c A' c' d, .int .u8 at_, .string s] w fun e w' => e = .returned (.bool true) ∧ Below w.heap.size w w' := by
  cases hr : lawRight d with
  | false => exact parts_no d d d d d at_ 0 s A c A' c' w h hid_small (hid_right d false hr)
  | true =>
    obtain ⟨r1, r2, hu⟩ := lawRight_true hr
    obtain ⟨a1, a2, a3, a4, a5⟩ := right_head (upE_zero.1 hu).1
    by_cases hl : d.left = -1
    · by_cases hs : s.size ≤ 16
      · have k0 : 0 ≤ at_ % (d.secs.length : Int) := Int.emod_nonneg _ (by omega)
        have k1 : at_ % (d.secs.length : Int) < d.secs.length := Int.emod_lt_of_pos _ (by omega)
        generalize hk : at_ % (d.secs.length : Int) = kk at k0 k1
        have ha : allB d = true := by simp [allB, hl]
        have hw := write_ok hu k0 k1 hs (by omega)
        have hwu := write_up hu k0 k1 hs (by omega)
        have hwd := writeD_ok hw
        have haw : allB (writeD d kk s) = true := by rw [hwd]; simp [allB, hl]
        have hfu := flushed_up hu ha
        have hk1 : kk < (flushed d).secs.length := by simp [flushed, puts_len]; exact k1
        have hw2 := write_ok hfu k0 hk1 hs (by simp [flushed])
        have hw2u := write_up hfu k0 hk1 hs (by simp [flushed])
        have hw2d := writeD_ok hw2
        have haw2 : allB (writeD (flushed d) kk s) = true := by rw [hw2d]; simp [allB, flushed, hl]
        have e : flushed (writeD (flushed d) kk s) = flushed (writeD d kk s) := by rw [hwd, hw2d]; exact (parts_eq d kk s hl).symm
        exact parts_main d (writeD d kk s) (flushed (writeD d kk s)) (flushed d) (writeD (flushed d) kk s) at_ kk s A c A' c' w h hid_small (hid_right d true hr) (by simp [hl]) hs a1 hb.1 hb.2 hk
          (hid_write d kk s hw) (hid_flush _ _ _ (flush_ok hwu haw).1 (flush_ok hwu haw).2) (hid_flush d _ _ (flush_ok hu ha).1 (flush_ok hu ha).2) (hid_write _ kk s hw2) (hid_flush _ _ _ (flush_ok hw2u haw2).1 ((flush_ok hw2u haw2).2.trans e))
      · exact parts_long d d d d d at_ 0 s A c A' c' w h hid_small (hid_right d true hr) (by simp [hl]) (by omega)
    · exact parts_left d d d d d at_ 0 s A c A' c' w h hid_small (hid_right d true hr) (by simpa using hl)

end Go.Proofs.Ytlfiooenbgegkaa
