/- The walk of DiskReads. -/
import Derived.Test.YtlfiooenbgegkaaDn
namespace Go.Proofs.Ytlfiooenbgegkaa
open Go.RowKit Ds
set_option linter.unusedSimpArgs false
set_option linter.unusedVariables false

set_option maxRecDepth 100000 in
set_option maxHeartbeats 16000000 in
theorem reads_no (d : Dk) (px : List Wr) (bef aft : List ByteArray) (at_ : Int) (kn : Nat) (s : ByteArray) (A : Option Addr) (c : Nat) (A' : Option Addr) (c' : Nat) (w : World) (hd0 : DiskAt w w.heap.size A c A' c' d)
    (HS : Hid (∀ w, Calls Try.prog 8 #[] w fun e w' => e = .returned (.bool true) ∧ Below w.heap.size w w'))
    (HR : Hid (CallV 27 d [] (.bool false)))
    : Calls Try.prog 4 #[dv A c A' c' d, .int .u8 at_, .string s] w fun e w' => e = .returned (.bool true) ∧ Below w.heap.size w w' := by
  have HD := Lib.hid hd0
  have B0 := Lib.hid (Below.refl w.heap.size w)
  clear hd0
  unfold dv dcells
  go_enter Try.func4, Try.ntmps4
  go_wp2_with fail
  obtain ⟨X1, hX1⟩ : ∃ X, X = w.alloc (.cells #[.slice A d.secs.length c, .slice A' d.pend.length c', .int .i64 d.left, .bool d.down] 25) := ⟨_, rfl⟩
  have bX1 : Below w.heap.size w X1 := by rw [hX1]; exact (Below.refl _ _).alloc (Nat.le_refl _) _
  have D2 := Lib.hid (HD.out.step bX1)
  have B3 := Lib.hid (B0.out.trans (bX1.mono B0.out.size))
  have K4 := Lib.hid (show X1.heap[w.heap.size]? = some (.cells #[.slice A d.secs.length c, .slice A' d.pend.length c', .int .i64 d.left, .bool d.down] 25 (0, 0)) by rw [hX1]; exact blk_new _ _)
  rw [← hX1]
  clear hX1
  refine (HS.out X1).mono ?_
  rintro e v5 ⟨rfl, hbv5⟩
  have K6 := Lib.hid (blk_call K4.out hbv5)
  have D7 := Lib.hid (D2.out.step hbv5)
  have B8 := Lib.hid (B3.out.trans (hbv5.mono B3.out.size))
  clear hbv5
  obtain ⟨⟨a9, a10, a11, a12⟩, a13, a14, a15, a16⟩ := blk4 K6.out
  go_wp2_with fail
  clear a9 a10 a11 a12 a13 a14 a15 a16
  refine (HR.out A c A' c' _ D7.out).mono ?_
  rintro e v17 ⟨rfl, hbv17⟩
  have K18 := Lib.hid (blk_call K6.out hbv17)
  have D19 := Lib.hid (D7.out.step hbv17)
  have B20 := Lib.hid (B8.out.trans (hbv17.mono B8.out.size))
  clear hbv17
  obtain ⟨⟨a21, a22, a23, a24⟩, a25, a26, a27, a28⟩ := blk4 K18.out
  go_wp2_with fail
  go_ret
  exact ⟨rfl, B20.out⟩

set_option maxRecDepth 100000 in
set_option maxHeartbeats 16000000 in
theorem reads_long (d : Dk) (px : List Wr) (bef aft : List ByteArray) (at_ : Int) (kn : Nat) (s : ByteArray) (A : Option Addr) (c : Nat) (A' : Option Addr) (c' : Nat) (w : World) (hd0 : DiskAt w w.heap.size A c A' c' d)
    (HS : Hid (∀ w, Calls Try.prog 8 #[] w fun e w' => e = .returned (.bool true) ∧ Below w.heap.size w w'))
    (HR : Hid (CallV 27 d [] (.bool true)))
    (g2 : 16 < s.size)
    : Calls Try.prog 4 #[dv A c A' c' d, .int .u8 at_, .string s] w fun e w' => e = .returned (.bool true) ∧ Below w.heap.size w w' := by
  have HD := Lib.hid hd0
  have B0 := Lib.hid (Below.refl w.heap.size w)
  clear hd0
  unfold dv dcells
  go_enter Try.func4, Try.ntmps4
  go_wp2_with fail
  obtain ⟨X1, hX1⟩ : ∃ X, X = w.alloc (.cells #[.slice A d.secs.length c, .slice A' d.pend.length c', .int .i64 d.left, .bool d.down] 25) := ⟨_, rfl⟩
  have bX1 : Below w.heap.size w X1 := by rw [hX1]; exact (Below.refl _ _).alloc (Nat.le_refl _) _
  have D2 := Lib.hid (HD.out.step bX1)
  have B3 := Lib.hid (B0.out.trans (bX1.mono B0.out.size))
  have K4 := Lib.hid (show X1.heap[w.heap.size]? = some (.cells #[.slice A d.secs.length c, .slice A' d.pend.length c', .int .i64 d.left, .bool d.down] 25 (0, 0)) by rw [hX1]; exact blk_new _ _)
  rw [← hX1]
  clear hX1
  refine (HS.out X1).mono ?_
  rintro e v5 ⟨rfl, hbv5⟩
  have K6 := Lib.hid (blk_call K4.out hbv5)
  have D7 := Lib.hid (D2.out.step hbv5)
  have B8 := Lib.hid (B3.out.trans (hbv5.mono B3.out.size))
  clear hbv5
  obtain ⟨⟨a9, a10, a11, a12⟩, a13, a14, a15, a16⟩ := blk4 K6.out
  go_wp2_with fail
  clear a9 a10 a11 a12 a13 a14 a15 a16
  refine (HR.out A c A' c' _ D7.out).mono ?_
  rintro e v17 ⟨rfl, hbv17⟩
  have K18 := Lib.hid (blk_call K6.out hbv17)
  have D19 := Lib.hid (D7.out.step hbv17)
  have B20 := Lib.hid (B8.out.trans (hbv17.mono B8.out.size))
  clear hbv17
  obtain ⟨⟨a21, a22, a23, a24⟩, a25, a26, a27, a28⟩ := blk4 K18.out
  go_wp2_with fail
  go_ret
  exact ⟨rfl, B20.out⟩

set_option maxRecDepth 100000 in
set_option maxHeartbeats 16000000 in
theorem reads_main (d : Dk) (px : List Wr) (bef aft : List ByteArray) (at_ : Int) (kn : Nat) (s : ByteArray) (A : Option Addr) (c : Nat) (A' : Option Addr) (c' : Nat) (w : World) (hd0 : DiskAt w w.heap.size A c A' c' d)
    (HS : Hid (∀ w, Calls Try.prog 8 #[] w fun e w' => e = .returned (.bool true) ∧ Below w.heap.size w w'))
    (HR : Hid (CallV 27 d [] (.bool true)))
    (g2 : s.size ≤ 16) (g3 : 1 ≤ d.secs.length) (g4 : 0 ≤ at_) (g5 : at_ ≤ 255) (hk : at_ % (d.secs.length : Int) = (kn : Nat)) (g6 : ((d.pend.length : Int) == 512) = false)
    (hbl : Hid (bef.length = d.secs.length)) (hal : Hid (aft.length = d.secs.length)) (hkn : kn < d.secs.length) (hd5 : d.secs.length ≤ 512)
    (HC1 : Hid (∀ A c A' c' w, DiskAt w w.heap.size A c A' c' d → Calls Try.prog 28 #[dv A c A' c' d] w (ListEnd w bef true)))
    (HW : Hid (CallD 17 d [.int .i64 (kn : Nat), .string s] ⟨d.secs, px, d.left, d.down⟩ 0)) (HK : Hid (CallV 13 ⟨d.secs, px, d.left, d.down⟩ [] (.int .i64 0)))
    (HC2 : Hid (∀ A c A' c' w, DiskAt w w.heap.size A c A' c' ⟨d.secs, px, d.left, d.down⟩ → Calls Try.prog 28 #[dv A c A' c' ⟨d.secs, px, d.left, d.down⟩] w (ListEnd w aft true)))
    (HA : Hid (∀ i, i < d.secs.length → i ≠ kn → ∃ t, aft[i]? = some t ∧ bef[i]? = some t)) (t : ByteArray) (HT : Hid (aft[kn]? = some t)) (ht : t.size = 16)
    (HT1 : Hid (∀ i (h : i < s.size) (h' : i < t.size), t[i] = s[i])) (HT2 : Hid (∀ i (h' : i < t.size), s.size ≤ i → t[i] = 0))
    : Calls Try.prog 4 #[dv A c A' c' d, .int .u8 at_, .string s] w fun e w' => e = .returned (.bool true) ∧ Below w.heap.size w w' := by
  have HD := Lib.hid hd0
  have B0 := Lib.hid (Below.refl w.heap.size w)
  clear hd0
  unfold dv dcells
  go_enter Try.func4, Try.ntmps4
  go_wp2_with fail
  obtain ⟨X1, hX1⟩ : ∃ X, X = w.alloc (.cells #[.slice A d.secs.length c, .slice A' d.pend.length c', .int .i64 d.left, .bool d.down] 25) := ⟨_, rfl⟩
  have bX1 : Below w.heap.size w X1 := by rw [hX1]; exact (Below.refl _ _).alloc (Nat.le_refl _) _
  have D2 := Lib.hid (HD.out.step bX1)
  have B3 := Lib.hid (B0.out.trans (bX1.mono B0.out.size))
  have K4 := Lib.hid (show X1.heap[w.heap.size]? = some (.cells #[.slice A d.secs.length c, .slice A' d.pend.length c', .int .i64 d.left, .bool d.down] 25 (0, 0)) by rw [hX1]; exact blk_new _ _)
  rw [← hX1]
  clear hX1
  refine (HS.out X1).mono ?_
  rintro e v5 ⟨rfl, hbv5⟩
  have K6 := Lib.hid (blk_call K4.out hbv5)
  have D7 := Lib.hid (D2.out.step hbv5)
  have B8 := Lib.hid (B3.out.trans (hbv5.mono B3.out.size))
  clear hbv5
  obtain ⟨⟨a9, a10, a11, a12⟩, a13, a14, a15, a16⟩ := blk4 K6.out
  go_wp2_with fail
  clear a9 a10 a11 a12 a13 a14 a15 a16
  refine (HR.out A c A' c' _ D7.out).mono ?_
  rintro e v17 ⟨rfl, hbv17⟩
  have K18 := Lib.hid (blk_call K6.out hbv17)
  have D19 := Lib.hid (D7.out.step hbv17)
  have B20 := Lib.hid (B8.out.trans (hbv17.mono B8.out.size))
  clear hbv17
  obtain ⟨⟨a21, a22, a23, a24⟩, a25, a26, a27, a28⟩ := blk4 K18.out
  go_wp2_with fail
  clear a21 a22 a23 a24 a25 a26 a27 a28
  refine (HC1.out A c A' c' _ D19.out).mono ?_
  rintro e v29 ⟨A30, c31, rfl, hd, hbv29⟩
  have K33 := Lib.hid (blk_call K18.out hbv29)
  have D34 := Lib.hid (D19.out.step hbv29)
  have B35 := Lib.hid (B20.out.trans (hbv29.mono B20.out.size))
  have R32 := Lib.hid hd
  clear hd hbv29
  obtain ⟨⟨a36, a37, a38, a39⟩, a40, a41, a42, a43⟩ := blk4 K33.out
  have hbl' := hbl.out
  go_wp2_with fail
  clear hbl'
  clear a36 a37 a38 a39 a40 a41 a42 a43
  refine (HW.out A c A' c' _ D34.out).mono ?_
  rintro e v44 ⟨A45, c46, A47, c48, he, hd, hbv44⟩
  unfold dv dcells at he
  subst he
  have K50 := Lib.hid (blk_call K33.out hbv44)
  have D51 := Lib.hid (D34.out.step hbv44)
  have R52 := Lib.hid (R32.out.step hbv44)
  have B53 := Lib.hid (B35.out.trans (hbv44.mono B35.out.size))
  have D49 := Lib.hid hd
  clear hd hbv44
  obtain ⟨⟨a54, a55, a56, a57⟩, a58, a59, a60, a61⟩ := blk4 K50.out
  go_wp2_with fail
  clear a54 a55 a56 a57 a58 a59 a60 a61
  obtain ⟨X62, hX62⟩ : ∃ X, X = v44.alloc (.cells #[.slice A45 d.secs.length c46, .slice A47 px.length c48, .int .i64 d.left, .bool d.down] 25) := ⟨_, rfl⟩
  have bX62 : Below v44.heap.size v44 X62 := by rw [hX62]; exact (Below.refl _ _).alloc (Nat.le_refl _) _
  have K63 := Lib.hid (blk_call K50.out bX62)
  have D64 := Lib.hid (D51.out.step bX62)
  have D65 := Lib.hid (D49.out.step bX62)
  have R66 := Lib.hid (R52.out.step bX62)
  have B67 := Lib.hid (B53.out.trans (bX62.mono B53.out.size))
  have K68 := Lib.hid (show X62.heap[v44.heap.size]? = some (.cells #[.slice A45 d.secs.length c46, .slice A47 px.length c48, .int .i64 d.left, .bool d.down] 25 (0, 0)) by rw [hX62]; exact blk_new _ _)
  rw [← hX62]
  clear hX62
  refine (HK.out A45 c46 A47 c48 _ D65.out).mono ?_
  rintro e v69 ⟨rfl, hbv69⟩
  have K70 := Lib.hid (blk_call K63.out hbv69)
  have K71 := Lib.hid (blk_call K68.out hbv69)
  have D72 := Lib.hid (D64.out.step hbv69)
  have D73 := Lib.hid (D65.out.step hbv69)
  have R74 := Lib.hid (R66.out.step hbv69)
  have B75 := Lib.hid (B67.out.trans (hbv69.mono B67.out.size))
  clear hbv69
  obtain ⟨⟨a76, a77, a78, a79⟩, a80, a81, a82, a83⟩ := blk4 K70.out
  obtain ⟨⟨a84, a85, a86, a87⟩, a88, a89, a90, a91⟩ := blk4 K71.out
  go_wp2_with fail
  clear a76 a77 a78 a79 a80 a81 a82 a83 a84 a85 a86 a87 a88 a89 a90 a91
  refine (HC2.out A45 c46 A47 c48 _ D73.out).mono ?_
  rintro e v92 ⟨A93, c94, rfl, hd, hbv92⟩
  have K96 := Lib.hid (blk_call K70.out hbv92)
  have K97 := Lib.hid (blk_call K71.out hbv92)
  have D98 := Lib.hid (D72.out.step hbv92)
  have D99 := Lib.hid (D73.out.step hbv92)
  have R100 := Lib.hid (R74.out.step hbv92)
  have B101 := Lib.hid (B75.out.trans (hbv92.mono B75.out.size))
  have R95 := Lib.hid hd
  clear hd hbv92
  have hal' := hal.out
  go_wp2_with fail
  clear hal'
  have hbl' := hbl.out
  have hal' := hal.out
  obtain ⟨v0, hv0⟩ : ∃ v0, v0 = v92 := ⟨_, rfl⟩
  have F1 := Lib.hid (show RowOf scell 1 v0 v0.heap.size A30 bef by rw [hv0]; exact R100.out)
  have F2 := Lib.hid (show RowOf scell 1 v0 v0.heap.size A93 aft by rw [hv0]; exact R95.out)
  have FB := Lib.hid (show Below w.heap.size w v0 by rw [hv0]; exact B101.out)
  rw [← hv0]
  clear hv0
  go_loopw [15] (fun i wr => ∃ (j q : Nat), i = .int .i64 j ∧ j ≤ d.secs.length ∧ wr = v0.drewN q) (fun i _ => d.secs.length - (intOf i).toNat)
  case atStart => exact ⟨0, 0, rfl, by omega, rfl⟩
  case round =>
    obtain ⟨j, q, rfl, hj, rfl⟩ := hrel
    by_cases hlt : j < d.secs.length
    · by_cases hjk : j = kn
      · subst hjk
        have t1 : ((j : Int) != (j : Int)) = false := by simp
        go_wp2_with fail
        go_quiet (fail)
        go_wp2_with fail
        go_roundw
        case rel => exact ⟨j + 1, q + nq, by go_num, by omega, rfl⟩
        case measure => simp [intOf]; omega
      · obtain ⟨t0, e1, e2⟩ := HA.out j hlt hjk
        obtain ⟨b1, o1, rfl, hb1, hc1⟩ := F1.out.open_ (by rw [hbl.out]; omega)
        obtain ⟨b2, o2, rfl, hb2, hc2⟩ := F2.out.open_ (by rw [hal.out]; omega)
        have q1 := secs_at hc1 e2
        have q2 := secs_at hc2 e1
        have t1 : ((j : Int) != (kn : Int)) = true := by simp; omega
        clear hc1 hc2 e1 e2
        go_wp2_with fail
        go_quiet (fail)
        go_wp2_with fail
        go_roundw
        case rel => exact ⟨j + 1, q + nq, by go_num, by omega, rfl⟩
        case measure => simp [intOf]; omega
    · obtain rfl : j = d.secs.length := by omega
      go_wp2_with fail
      go_loopw [16] (fun i wr => ∃ (j q : Nat), i = .int .i64 j ∧ j ≤ 16 ∧ wr = v0.drewN q) (fun i _ => 16 - (intOf i).toNat)
      case atStart => exact ⟨0, _, rfl, by omega, rfl⟩
      case round =>
        obtain ⟨j, q2, rfl, hj2, rfl⟩ := hrel
        by_cases hlt2 : j < 16
        · obtain ⟨b2, o2, rfl, hb2, hc2⟩ := F2.out.open_ (by rw [hal.out]; omega)
          have q2' := secs_at hc2 HT.out
          clear hc2
          have hjt : j < t.size := by omega
          by_cases hjs : j < s.size
          · have te := HT1.out j hjs hjt
            have tx : ((((t[j]'hjt).toNat : Nat) : Int) != (((s[j]'hjs).toNat : Nat) : Int)) = false := by rw [te]; simp
            have ty : decide (s.size ≤ j) = false := by simp; omega
            have tz : decide (j < s.size) = true := by simp; omega
            clear te
            go_wp2_with fail
            go_quiet (fail)
            go_wp2_with fail
            go_roundw
            case rel => exact ⟨j + 1, q2 + nq, by go_num, by omega, rfl⟩
            case measure => simp [intOf]; omega
          · have te := HT2.out j hjt (by omega)
            have tx : ((((t[j]'hjt).toNat : Nat) : Int) != 0) = false := by rw [te]; simp
            have ty : decide (s.size ≤ j) = true := by simp; omega
            have tz : decide (j < s.size) = false := by simp; omega
            clear te
            go_wp2_with fail
            go_quiet (fail)
            go_wp2_with fail
            go_roundw
            case rel => exact ⟨j + 1, q2 + nq, by go_num, by omega, rfl⟩
            case measure => simp [intOf]; omega
        · obtain rfl : j = 16 := by omega
          go_wp2_with fail
          go_ret
          exact ⟨rfl, below_drewN FB.out _⟩

end Go.Proofs.Ytlfiooenbgegkaa
