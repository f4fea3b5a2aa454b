/- Walks by the logic of calls, and plain laws. -/
import Derived.Test.YtfbijgbpipedoaaGreatDoorGLex
import Derived.Test.YtfbijgbpipedoaaGreatDoorGh3
import Derived.Test.YtfbijgbpipedoaaGreatDoorShelf
namespace Go.Gh
open Go Go.Proofs
set_option maxRecDepth 1000000
set_option maxHeartbeats 2000000
set_option linter.unusedSimpArgs false
set_option linter.unusedVariables false
open Go.RowKit
def cutS (s p : ByteArray) : ByteArray := ⟨(Lib.trimSuffix s.data.toList p.data.toList).toArray⟩
def hasS (s p : ByteArray) : Bool := Lib.hasSuffix s.data.toList p.data.toList
theorem cutSuffix_ok (s p : ByteArray) (hs : s.size ≤ 9223372036854775807) : GC Tryz.prog 48 [sG s, sG p] (.tup [sG (cutS s p), bG (hasS s p)]) :=
  gc_of_old Tryz.func48 rfl rfl rfl rfl fun w => (Tryz.strings_CutSuffix s p w hs).mono fun e w' ⟨h1, h2⟩ => ⟨h1, h2 ▸ Below.refl _ _⟩
def idx1 (s : ByteArray) (c : UInt8) : Int := Lib.indexByte s.data.toList c
theorem index_one_ok (s : ByteArray) (c : UInt8) : GC Tryz.prog 88 [sG s, sG ⟨#[c]⟩] (iG (idx1 s c)) :=
  gc_of_old Tryz.func88 rfl rfl rfl rfl fun w => (Tryz.stringslite_Index_one s c w).mono fun e w' ⟨h1, h2⟩ => ⟨h1, h2 ▸ Below.refl _ _⟩
theorem cutS_size (s p : ByteArray) : (cutS s p).size ≤ s.size := by
  show (Lib.trimSuffix s.data.toList p.data.toList).toArray.size ≤ s.data.size
  rw [List.size_toArray]
  unfold Lib.trimSuffix
  split <;> simp

theorem indexByte_lt : ∀ (l : List UInt8) (c : UInt8), -1 ≤ Lib.indexByte l c ∧ Lib.indexByte l c < l.length := by
  intro l c
  induction l with
  | nil => simp [Lib.indexByte]
  | cons b l ih =>
    unfold Lib.indexByte
    simp only [List.length_cons]
    split
    · omega
    · split <;> omega
theorem idx1_lt (s : ByteArray) (c : UInt8) : -1 ≤ idx1 s c ∧ idx1 s c < s.size := by
  have := indexByte_lt s.data.toList c
  rw [Array.length_toList] at this
  exact this
def cutA (s : ByteArray) (c : UInt8) : ByteArray := if 0 ≤ idx1 s c then s.extract 0 (idx1 s c).toNat else s
def cutB (s : ByteArray) (c : UInt8) : ByteArray := if 0 ≤ idx1 s c then s.extract (idx1 s c + 1).toNat s.size else ⟨#[]⟩
theorem cutA_size (s : ByteArray) (c : UInt8) : (cutA s c).size ≤ s.size := by
  unfold cutA; split
  · rw [ByteArray.size_extract]; omega
  · exact Nat.le_refl _
theorem cutB_size (s : ByteArray) (c : UInt8) : (cutB s c).size ≤ s.size := by
  unfold cutB; split
  · rw [ByteArray.size_extract]; omega
  · exact Nat.zero_le _

theorem cut1in_ok (s : ByteArray) (c : UInt8) (hs : s.size ≤ 9223372036854775807) : GC Tryz.prog 76 [sG s, sG ⟨#[c]⟩] (.tup [sG (cutA s c), sG (cutB s c), bG (decide (0 ≤ idx1 s c))]) := by
  have hi := idx1_lt s c
  have h1 : (ByteArray.mk #[c]).size = 1 := rfl
  refine gc_of_gk Tryz.func76 ?_
  refine gk_region env false [] [0, 1, 4, 5, 6] ?_ -- 0
  refine gk_region env false [.call (index_one_ok s c)] [0, 1, 4, 5, 6, 7] ?_ -- 1
  refine gk_region env false [] [0, 1, 4, 5, 6, 7, 12] ?_ -- 2
  refine gk_ifd (fun c1 => ?_) (fun c1 => ?_)
  · try simp only [toN] at c1
    refine gk_region env false [] [0, 4, 5, 6] ?_ (hp := by simp only [AllP, loI, hiI, h1]; repeat' first | omega | apply And.intro) -- 3
    refine gk_ret env ?_
    simp [cutA, cutB, c1, tupG, loI, hiI, h1]
  · try simp only [toN] at c1
    refine gk_region env false [] [4, 5, 6] ?_ -- 4
    refine gk_ret env ?_
    simp [cutA, cutB, c1, tupG]

theorem cut1_ok (s : ByteArray) (c : UInt8) (hs : s.size ≤ 9223372036854775807) : GC Tryz.prog 51 [sG s, sG ⟨#[c]⟩] (.tup [sG (cutA s c), sG (cutB s c), bG (decide (0 ≤ idx1 s c))]) := by
  refine gc_of_gk Tryz.func51 ?_
  refine gk_region env false [] [0, 1, 4, 5, 6] ?_ -- 0
  refine gk_region env false [.call (cut1in_ok s c hs)] [4, 5, 6] ?_ -- 1
  refine gk_ret env ?_
  rfl
end Go.Gh
