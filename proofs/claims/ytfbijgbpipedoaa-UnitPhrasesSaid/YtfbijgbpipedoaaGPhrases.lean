/- Walks by the logic of calls, and plain laws. -/
import Derived.Test.YtfbijgbpipedoaaGUnitLaw
namespace Go.Gh
open Go Go.Proofs
set_option maxRecDepth 1000000
set_option maxHeartbeats 2000000
set_option linter.unusedSimpArgs false
set_option linter.unusedVariables false
open Go.Proofs.Ytfbijgbpipedoaa Go.Proofs.Ytfbijgbpipedoaa.Ra

def wA : ByteArray := ⟨#[32, 112, 101, 114, 99, 101, 110, 116, 32, 109, 111, 114, 101, 32, 111, 114, 32, 108, 101, 115, 115]⟩
def wB : ByteArray := ⟨#[32, 112, 101, 114, 99, 101, 110, 116, 32, 109, 111, 114, 101]⟩
def wC : ByteArray := ⟨#[32, 112, 101, 114, 99, 101, 110, 116, 32, 108, 101, 115, 115]⟩
def wS : ByteArray := ⟨#[32]⟩
def dg2 (k : Int) : ByteArray := ⟨#[UInt8.ofNat (48 + k / 10).toNat, UInt8.ofNat (48 + k % 10).toNat]⟩
def dgS (k : Int) : ByteArray := if k < 10 then (dg2 k).extract 1 2 else dg2 k
def okK (m : Nat) : Bool :=
  bif Nat.beq m 0 then !(tolV (dgS m ++ wA)).ok && !(tolV (dgS m ++ wB)).ok && !(tolV (dgS m ++ wC)).ok
  else (tolV (dgS m ++ wA)).ok && (tolV (dgS m ++ wB)).ok && (tolV (dgS m ++ wC)).ok && !(tolV (wS ++ dgS m ++ wC)).ok &&
    (decide ((tolV (dgS m ++ wA)).less = 10 * m) && decide ((tolV (dgS m ++ wA)).more = 10 * m) && decide ((tolV (dgS m ++ wB)).less = 0) && decide ((tolV (dgS m ++ wB)).more = 10 * m) && decide ((tolV (dgS m ++ wC)).less = 10 * m) && decide ((tolV (dgS m ++ wC)).more = 0))
theorem okK_all : (List.range 100).all okK = true := by kernel_rfl
theorem okK_at {k : Int} (h0 : 0 ≤ k) (h1 : k < 100) : (k = 0 → (tolV (dgS k ++ wA)).ok = false ∧ (tolV (dgS k ++ wB)).ok = false ∧ (tolV (dgS k ++ wC)).ok = false) ∧
    (k ≠ 0 → ((tolV (dgS k ++ wA)).ok = true ∧ (tolV (dgS k ++ wB)).ok = true ∧ (tolV (dgS k ++ wC)).ok = true ∧ (tolV (wS ++ dgS k ++ wC)).ok = false) ∧
      (tolV (dgS k ++ wA)).less = 10 * k ∧ (tolV (dgS k ++ wA)).more = 10 * k ∧ (tolV (dgS k ++ wB)).less = 0 ∧ (tolV (dgS k ++ wB)).more = 10 * k ∧ (tolV (dgS k ++ wC)).less = 10 * k ∧ (tolV (dgS k ++ wC)).more = 0) := by
  obtain ⟨m, rfl⟩ : ∃ m : Nat, k = m := ⟨k.toNat, by omega⟩
  have h := List.all_eq_true.1 okK_all m (by simp; omega)
  unfold okK at h
  cases hm : Nat.beq m 0 with
  | true =>
    rw [hm] at h
    have := Nat.eq_of_beq_eq_true hm
    simp only [cond_true, Bool.and_eq_true, Bool.not_eq_true'] at h
    exact ⟨fun _ => ⟨h.1.1, h.1.2, h.2⟩, fun hn => absurd (by omega) hn⟩
  | false =>
    rw [hm] at h
    have : m ≠ 0 := fun e => by subst e; cases hm
    simp only [cond_false, Bool.and_eq_true, Bool.not_eq_true', decide_eq_true_eq] at h
    exact ⟨fun hn => absurd hn (by omega), fun _ => ⟨⟨h.1.1.1.1, h.1.1.1.2, h.1.1.2, h.1.2⟩, h.2.1.1.1.1.1, h.2.1.1.1.1.2, h.2.1.1.1.2, h.2.1.1.2, h.2.1.2, h.2.2⟩⟩
theorem pcV_in (s e : ByteArray) : 0 ≤ pcV s e ∧ pcV s e ≤ 1000 := by
  unfold pcV
  split
  · omega
  · rename_i h
    simp only [pcBad, Bool.or_eq_true, decide_eq_true_eq, not_or] at h
    omega
theorem tolV_in (s : ByteArray) : ((tolV s).ok = true → (0 ≤ (tolV s).less ∧ (tolV s).less ≤ 1000) ∧ 0 ≤ (tolV s).more ∧ (tolV s).more ≤ 1000) ∧ ((tolV s).ok = false → (tolV s).less = 0 ∧ (tolV s).more = 0) := by
  have h1 := pcV_in s wMol
  have h2 := pcV_in s wMore
  have h3 := pcV_in s wLess
  unfold tolV
  split
  · simp
  · split
    · simp
    · split
      · simp; omega
      · split
        · simp; omega
        · split
          · simp; omega
          · simp
theorem dg2_byte {k : Int} (h0 : 0 ≤ k) (h1 : k < 100) : rowL (fun c => [D.sc (.int .u8 c)]) [48 + k / 10, 48 + k % 10] = byteL (dg2 k) := by
  have e : ∀ x : Int, 0 ≤ x → x < 10 → ((UInt8.ofNat (48 + x).toNat).toNat : Int) = 48 + x := fun x a b => by
    rw [UInt8.toNat_ofNat']; omega
  simp only [byteL, dg2, rowL, List.map_cons, List.map_nil]
  rw [e _ (by omega) (by omega), e _ (by omega) (by omega)]
theorem dgS_size {k : Int} : (dgS k).size ≤ 2 := by
  unfold dgS; split
  · rw [ByteArray.size_extract]; show min 2 2 - 1 ≤ 2; omega
  · exact Nat.le_refl 2
theorem ap_size (a b : ByteArray) : (a ++ b).size = a.size + b.size := ByteArray.size_append

theorem phrases_law (s : ByteArray) (n : Int) : GC Try.prog 5 [sG s, iG n] (bG true) := by
  refine gc_of_gk Try.func5 ?_
  refine gk_region env false [] [0, 1, 4] ?_ -- 0
  refine gk_region env false [.call small_ok] [0, 1, 4, 5] ?_ -- 1
  refine gk_region env false [] [0, 1, 4, 5, 26] ?_ -- 2
  refine gk_ifd (fun c1 => ?_) (fun c1 => ?_)
  · try simp only [toN] at c1
    refine gk_region env false [] [0, 1, 4, 5] ?_ -- 3
    refine gk_ret env ?_
    rfl
  · try simp only [toN] at c1
    refine gk_region env false [.call (tolerance_ok s (by omega))] [1, 4, 5, 6, 7, 8] ?_ -- 4
    refine gk_region env false [] [1, 4, 5, 62] ?_ -- 5
    refine gk_if (fun c2 => ?_) (fun c2 => ?_)
    · try simp only [bb, toN] at c2
      refine gk_region env false [] [1, 4, 5] ?_ -- 6
      refine gk_ret env ?_
      exfalso
      obtain ⟨h1, h2⟩ := tolV_in s
      rcases c2 with ⟨h, h3⟩ | ⟨h, h3⟩
      · have := h1 h; omega
      · have := h2 h; omega
    · try simp only [bb, toN] at c2
      refine gk_region env true [] [4, 5, 9] ?_ -- 7
      have b1 := Int.tmod_lt_of_pos n (show (0 : Int) < 100 by omega)
      have b2 := Int.lt_tmod_of_pos n (show (0 : Int) < 100 by omega)
      refine gk_region env false [] [4, 5, 9, 66] ?_ -- 8
      refine gk_join (α := Int) (fun k => 0 ≤ k ∧ k < 100) (fun k => ⟨[(5, bG true), (9, iG k)], [], 0⟩) ?_ ?_
      · rintro k ⟨k0, k1⟩
        refine gk_region env false [.el (0 : Int) (fun c => [.sc (.int .u8 c)]) [48 + k / 10, 48 + k % 10], .str (dg2 k)] [4, 5, 9, 10] ?_ (hp := by simp only [AllP, bb, toN]; repeat' first | exact trivial | exact dg2_byte k0 k1 | exact rfl | omega | apply And.intro) -- 10
        refine gk_region env false [] [4, 5, 9, 10, 80] ?_ -- 11
        refine gk_join (α := ByteArray) (fun d => d = dgS k) (fun d => ⟨[(5, bG true), (9, iG k), (10, sG d)], [], 0⟩) ?_ ?_
        · rintro d rfl
          have zd := dgS_size (k := k)
          generalize hd : dgS k = d at *
          have sA : d.size + wA.size ≤ 9223372036854775807 := by show d.size + 21 ≤ _; omega
          have sB : d.size + wB.size ≤ 9223372036854775807 := by show d.size + 13 ≤ _; omega
          have sC : d.size + wC.size ≤ 9223372036854775807 := by show d.size + 13 ≤ _; omega
          have sE : (wS ++ d).size = 1 + d.size := ap_size _ _
          have sD : (wS ++ d).size + wC.size ≤ 9223372036854775807 := by rw [sE]; show 1 + d.size + 13 ≤ _; omega
          have sF : wS.size + d.size ≤ 9223372036854775807 := by show 1 + d.size ≤ _; omega
          have tA : (d ++ wA).size ≤ 9223372036854775807 := by rw [ap_size]; exact sA
          have tB : (d ++ wB).size ≤ 9223372036854775807 := by rw [ap_size]; exact sB
          have tC : (d ++ wC).size ≤ 9223372036854775807 := by rw [ap_size]; exact sC
          have tD : (wS ++ d ++ wC).size ≤ 9223372036854775807 := by rw [ap_size]; exact sD
          refine gk_region env false [.call (tolerance_ok (d ++ wA) tA)] [4, 5, 9, 10, 11, 12, 13] ?_ (hp := by exact ⟨sA, EntL.refl _⟩) -- 13
          refine gk_region env false [.call (tolerance_ok (d ++ wB) tB)] [4, 5, 9, 10, 11, 12, 13, 14, 15, 16] ?_ (hp := by exact ⟨sB, EntL.refl _⟩) -- 14
          refine gk_region env false [.call (tolerance_ok (d ++ wC) tC)] [4, 5, 9, 10, 11, 12, 13, 14, 15, 16, 17, 18, 19] ?_ (hp := by exact ⟨sC, EntL.refl _⟩) -- 15
          refine gk_region env false [.call (tolerance_ok (wS ++ d ++ wC) tD)] [4, 5, 9, 11, 12, 13, 14, 15, 16, 17, 18, 19, 22] ?_ (hp := by exact ⟨sF, sD, EntL.refl _⟩) -- 16
          refine gk_region env false [] [4, 5, 9, 11, 12, 13, 14, 15, 16, 17, 18, 19, 22, 113] ?_ -- 17
          refine gk_ifd (fun c3 => ?_) (fun c3 => ?_)
          · try simp only [toN] at c3
            refine gk_region env false [] [4, 5, 9, 11, 12, 13, 14, 15, 16, 17, 18, 19, 22] ?_ -- 18
            refine gk_ret env ?_
            obtain ⟨q1, q2, q3⟩ := (okK_at k0 k1).1 (by assumption)
            rw [hd] at q1 q2 q3
            show G.d (.sc (.bool _)) = _
            simp [q1, q2, q3]
          · try simp only [toN] at c3
            refine gk_region env false [] [4] ?_ -- 19
            refine gk_ret env ?_
            obtain ⟨⟨q1, q2, q3, q4⟩, q5, q6, q7, q8, q9, q10⟩ := (okK_at k0 k1).2 (by assumption)
            rw [hd] at q1 q2 q3 q4 q5 q6 q7 q8 q9 q10
            show G.d (.sc (.bool _)) = _
            simp [q1, q2, q3, q4, q5, q6, q7, q8, q9, q10]
        refine gk_ifd (fun c4 => ?_) (fun c4 => ?_)
        · try simp only [toN] at c4
          refine gk_region env false [] [4, 5, 9, 10] ?_ (hp := by simp only [AllP, loI, hiI]; show _ ∧ _ ≤ ((2 : Nat) : Int) ∧ _; omega) -- 12
          refine gk_goal ((dg2 k).extract 1 2) ?_ (hp := by simp [AllP] <;> rfl)
          rw [dgS, if_pos (by assumption)]
        · try simp only [toN] at c4
          refine gk_goal (dg2 k) ?_ (hp := by simp [AllP] <;> rfl)
          rw [dgS, if_neg (by assumption)]
      refine gk_ifd (fun c5 => ?_) (fun c5 => ?_)
      · try simp only [toN] at c5
        refine gk_region env false [] [4, 5, 9] ?_ -- 9
        refine gk_goal (0 - n.tmod 100) ?_
        have := Int.tmod_lt_of_pos n (show (0 : Int) < 100 by omega)
        have := Int.lt_tmod_of_pos n (show (0 : Int) < 100 by omega)
        omega
      · try simp only [toN] at c5
        refine gk_goal (n.tmod 100) ?_
        have := Int.tmod_lt_of_pos n (show (0 : Int) < 100 by omega)
        have := Int.lt_tmod_of_pos n (show (0 : Int) < 100 by omega)
        omega
end Go.Gh
