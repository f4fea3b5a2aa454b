/- DiskReads: what its walk wants, paid. -/
import Derived.Test.YtlfiooenbgegkaaDRd
import Derived.Test.YtlfiooenbgegkaaDFlushes
namespace Go.Proofs.Ytlfiooenbgegkaa
open Go.RowKit Ds
set_option linter.unusedVariables false

theorem pad_at {s : ByteArray} (i : Nat) (h : i < s.size) (h' : i < (pad s).size) : (pad s)[i] = s[i] := by
  unfold pad at *
  exact ByteArray.getElem_append_left h
theorem zeros_at (n i : Nat) (h : i < (zeros n).size) : (zeros n)[i] = 0 := by
  have e : (zeros n)[i] = (Array.replicate n (0 : UInt8))[i]'(by have := zeros_size n; simp; omega) := rfl
  rw [e]
  simp
theorem pad_zero {s : ByteArray} (i : Nat) (h' : i < (pad s).size) (h : s.size ≤ i) : (pad s)[i] = 0 := by
  unfold pad at *
  rw [ByteArray.getElem_append_right h]
  exact zeros_at _ _ _
theorem reads_any (A : Option Addr) (c : Nat) (A' : Option Addr) (c' : Nat) (d : Dk) (at_ : Int) (s : ByteArray) (w : World) (h : DiskAt w w.heap.size A c A' c' d) (hb : 0 ≤ at_ ∧ at_ ≤ 255) (hz : s.size ≤ 9223372036854775807) :
    Calls Try.prog 4 #[dv A c A' c' d, .int .u8 at_, .string s] w fun e w' => e = .returned (.bool true) ∧ Below w.heap.size w w' := by
  cases hr : lawRight d with
  | false => exact reads_no d [] [] [] at_ 0 s A c A' c' w h hid_small (hid_right d false hr)
  | true =>
    obtain ⟨r1, r2, hu⟩ := lawRight_true hr
    obtain ⟨a1, a2, a3, a4, a5⟩ := right_head (upE_zero.1 hu).1
    by_cases hs : s.size ≤ 16
    · have k0 : 0 ≤ at_ % (d.secs.length : Int) := Int.emod_nonneg _ (by omega)
      have k1 : at_ % (d.secs.length : Int) < d.secs.length := Int.emod_lt_of_pos _ (by omega)
      obtain ⟨kn, hk⟩ : ∃ n : Nat, at_ % (d.secs.length : Int) = n := ⟨(at_ % (d.secs.length : Int)).toNat, by omega⟩
      have hkn : kn < d.secs.length := by omega
      have hw := write_ok hu (k := (kn : Nat)) (by omega) (by omega) hs (by omega)
      have hwu := write_up hu (k := (kn : Nat)) (by omega) (by omega) hs (by omega)
      obtain ⟨px, hpx⟩ : ∃ px, px = d.pend ++ [⟨(kn : Nat), pad s⟩] := ⟨_, rfl⟩
      have hwd : writeD d kn s = ⟨d.secs, px, d.left, d.down⟩ := by rw [hpx]; exact writeD_ok hw
      have hW := hid_write d kn s hw
      have hat := fun (i : Nat) (hi : i < d.secs.length) => reads_write hu hkn hs (by omega) hi
      rw [hwd] at hwu hW hat
      clear hpx hwd
      have hX2 := hid_conts _ _ hwu rfl
      have hrl : ∀ i, i < d.secs.length → (readsL ⟨d.secs, px, d.left, d.down⟩)[i]? = some (if i = kn then pad s else readV d i) := fun i hi => by
        rw [readsL_at _ (show i < (⟨d.secs, px, d.left, d.down⟩ : Dk).secs.length from hi), hat i hi]
      have hlen : (readsL ⟨d.secs, px, d.left, d.down⟩).length = d.secs.length := readsL_len _
      have hK := hid_check _ (upE_zero.1 hwu).1
      generalize readsL ⟨d.secs, px, d.left, d.down⟩ = aft at *
      have hA : Hid (∀ i, i < d.secs.length → i ≠ kn → ∃ t, aft[i]? = some t ∧ (readsL d)[i]? = some t) := Lib.hid fun i hi hne => ⟨readV d i, by rw [hrl i hi, if_neg hne], readsL_at d hi⟩
      have hT : Hid (aft[kn]? = some (pad s)) := Lib.hid (by rw [hrl kn hkn, if_pos rfl])
      have g6 : ((d.pend.length : Int) == 512) = false := by simp; omega
      exact reads_main d px (readsL d) aft at_ kn s A c A' c' w h hid_small (hid_right d true hr) hs a1 hb.1 hb.2 hk g6 (Lib.hid (readsL_len d)) (Lib.hid hlen) hkn a2 (hid_conts d _ hu rfl) hW hK hX2 hA (pad s) hT (pad_size hs) (Lib.hid fun i h h' => pad_at i h h') (Lib.hid fun i h' h => pad_zero i h' h)
    · exact reads_long d [] [] [] at_ 0 s A c A' c' w h hid_small (hid_right d true hr) (by omega)

end Go.Proofs.Ytlfiooenbgegkaa
