/- DiskFlushes: what its walk wants, paid. -/
import Derived.Test.YtlfiooenbgegkaaDFlush
import Derived.Test.YtlfiooenbgegkaaDSm
namespace Go.Proofs.Ytlfiooenbgegkaa
open Go.RowKit Ds
set_option linter.unusedVariables false

theorem hid_right (d : Dk) (b : Bool) (h : lawRight d = b) : Hid (CallV 27 d [] (.bool b)) := Lib.hid fun A c A' c' w hd => by
  have := lawRight_any A c A' c' d w hd; rw [h] at this; exact this
theorem hid_flush (d x : Dk) (er : Int) (h : flushE d = er) (h2 : flushD d = x) : Hid (CallD 19 d [] x er) := Lib.hid fun A c A' c' w hd => by
  have := flush_any A c A' c' d w hd; rw [h, h2] at this; exact this
theorem hid_check (d : Dk) (h : rightB d = true) : Hid (CallV 13 d [] (.int .i64 0)) := Lib.hid fun A c A' c' w hd => by
  have := check_any A c A' c' d w hd; rw [show checkE d = 0 by unfold checkE; rw [if_pos h]] at this; exact this
theorem hid_cut (d : Dk) (h : upE d = 0) : Hid (CallD 23 d [] (cutD d) 0) := Lib.hid fun A c A' c' w hd => by
  have := cut_any A c A' c' d w hd; rw [h] at this; exact this
theorem hid_start (d : Dk) (h : rightB d = true) (hd : d.down = true) : Hid (CallD 25 d [] (startD d) 0) := Lib.hid fun A c A' c' w hw => by
  have := start_any A c A' c' d w hw; rw [(start_ok h hd).1] at this; exact this
theorem hid_arm (d : Dk) (n : Int) (h : upE d = 0) (h0 : 0 ≤ n) (h1 : n ≤ 512) : Hid (CallD 21 d [.int .i64 n] { d with left := n } 0) := Lib.hid fun A c A' c' w hd => by
  have := arm_any A c A' c' d n w hd; rw [(arm_ok h h0 h1).1, (arm_ok h h0 h1).2] at this; exact this
theorem hid_write (d : Dk) (k : Int) (s : ByteArray) (h : writeE d k s = 0) : Hid (CallD 17 d [.int .i64 k, .string s] (writeD d k s) 0) := Lib.hid fun A c A' c' w hd => by
  have := write_any A c A' c' d k s w hd; rw [h] at this; exact this
theorem hid_read (d : Dk) (k : Nat) (h : upE d = 0) (hk : k < d.secs.length) : Hid (CallV 15 d [.int .i64 k] (.tuple #[.string (readV d k), .int .i64 0])) := Lib.hid fun A c A' c' w hd => by
  have := read_any A c A' c' d k w hd; rw [read_ok h (by omega) (by omega)] at this; exact this
theorem hid_conts (d : Dk) (l : List ByteArray) (h : upE d = 0) (hl : readsL d = l) : Hid (∀ A c A' c' w, DiskAt w w.heap.size A c A' c' d → Calls Try.prog 28 #[dv A c A' c' d] w (ListEnd w l true)) := Lib.hid fun A c A' c' w hd => by
  have := contents_any A c A' c' d w hd h; rw [hl] at this; exact this
theorem hid_small : Hid (∀ w, Calls Try.prog 8 #[] w fun e w' => e = .returned (.bool true) ∧ Below w.heap.size w w') := Lib.hid small_any

/-- behind a power failure and the start, a disk reads as its sectors -/
theorem reads_back (d : Dk) (h : upE d = 0) : upE (startD (cutD d)) = 0 ∧ readsL (startD (cutD d)) = d.secs := by
  have hr := cut_right h
  have hd : (cutD d).down = true := by rw [cut_ok h]
  have hu := start_up hr hd
  have e : startD (cutD d) = ⟨d.secs, [], -1, false⟩ := by rw [(start_ok hr hd).2, cut_ok h]
  refine ⟨hu, ?_⟩
  rw [reads_nil hu (by rw [e]), e]

theorem flushes_any (A : Option Addr) (c : Nat) (A' : Option Addr) (c' : Nat) (d : Dk) (w : World) (h : DiskAt w w.heap.size A c A' c' d) :
    Calls Try.prog 5 #[dv A c A' c' d] w fun e w' => e = .returned (.bool true) ∧ Below w.heap.size w w' := by
  cases hr : lawRight d with
  | false => exact flushes_no d d d d d d [] A c A' c' w h hid_small (hid_right d false hr)
  | true =>
    obtain ⟨r1, r2, hu⟩ := lawRight_true hr
    obtain ⟨a1, a2, a3, a4, a5⟩ := right_head (upE_zero.1 hu).1
    by_cases hc : 0 ≤ d.left ∧ d.left < (d.pend.length : Int)
    · exact flushes_cut d d d d d d [] A c A' c' w h hid_small (hid_right d true hr) hc.1 hc.2
    · have ha : allB d = true := by simp only [allB, Bool.or_eq_true, decide_eq_true_eq]; omega
      have hx := flushed_up hu ha
      have hco := cut_right hx
      have hcd : (cutD (flushed d)).down = true := by rw [cut_ok hx]
      have hlo := cut_right hu
      have hld : (cutD d).down = true := by rw [cut_ok hu]
      have hfr := reads_flushed hu ha
      have hkept : readsL (startD (cutD (flushed d))) = readsL d := by rw [(reads_back _ hx).2, ← hfr, reads_nil hx rfl]
      have hlen : (readsL d).length ≤ 4611686018427387904 := by rw [readsL_len]; omega
      rcases (by omega : d.left = -1 ∨ (0 ≤ d.left ∧ (d.pend.length : Int) ≤ d.left)) with hl | ⟨hl1, hl2⟩
      · exact flushes_one d (flushed d) (cutD (flushed d)) (startD (cutD (flushed d))) (cutD d) (startD (cutD d)) (readsL d) A c A' c' w h hid_small (hid_right d true hr)
          (hid_conts d _ hu rfl) (hid_flush d _ _ (flush_ok hu ha).1 (flush_ok hu ha).2) (hid_conts _ _ hx hfr) (hid_check _ (upE_zero.1 hx).1) (hid_cut _ hx) (hid_start _ hco hcd) (hid_conts _ _ (reads_back _ hx).1 hkept)
          (hid_cut _ hu) (hid_start _ hlo hld) (hid_conts _ _ (reads_back _ hu).1 (reads_back _ hu).2) (by simp [flushed]) hlen (by omega) a5 a3 (by simp [hl]) (by simp [flushed, hl]) (by omega)
      · exact flushes_two d (flushed d) (cutD (flushed d)) (startD (cutD (flushed d))) (cutD d) (startD (cutD d)) (readsL d) A c A' c' w h hid_small (hid_right d true hr)
          (hid_conts d _ hu rfl) (hid_flush d _ _ (flush_ok hu ha).1 (flush_ok hu ha).2) (hid_conts _ _ hx hfr) (hid_check _ (upE_zero.1 hx).1) (hid_cut _ hx) (hid_start _ hco hcd) (hid_conts _ _ (reads_back _ hx).1 hkept)
          (hid_cut _ hu) (hid_start _ hlo hld) (hid_conts _ _ (reads_back _ hu).1 (reads_back _ hu).2) (by simp [flushed]) hlen (by omega) a5 a3 (by simp; omega) (by simp [flushed, hl1]) hl1 hl2

end Go.Proofs.Ytlfiooenbgegkaa
