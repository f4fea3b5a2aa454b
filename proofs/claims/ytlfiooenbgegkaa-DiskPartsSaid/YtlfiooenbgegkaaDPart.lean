/- The walk of DiskParts. -/
import Derived.Test.YtlfiooenbgegkaaDn
namespace Go.Proofs.Ytlfiooenbgegkaa
open Go.RowKit Ds
set_option linter.unusedSimpArgs false
set_option linter.unusedVariables false

set_option maxRecDepth 100000 in
set_option maxHeartbeats 16000000 in
theorem parts_no (d a tog b c2 : Dk) (at_ kk : Int) (s : ByteArray) (A : Option Addr) (c : Nat) (A' : Option Addr) (c' : Nat) (w : World) (hd0 : DiskAt w w.heap.size A c A' c' d)
    (HS : Hid (∀ w, Calls Try.prog 8 #[] w fun e w' => e = .returned (.bool true) ∧ Below w.heap.size w w'))
    (HR : Hid (CallV 27 d [] (.bool false)))
    : Calls Try.prog 7 #[dv A c A' c' d, .int .u8 at_, .string s] w fun e w' => e = .returned (.bool true) ∧ Below w.heap.size w w' := by
  have HD := Lib.hid hd0
  have B0 := Lib.hid (Below.refl w.heap.size w)
  clear hd0
  unfold dv dcells
  go_enter Try.func7, Try.ntmps7
  go_wp2_with fail
  obtain ⟨X1, hX1⟩ : ∃ X, X = w.alloc (.cells #[.slice A d.secs.length c, .slice A' d.pend.length c', .int .i64 d.left, .bool d.down] 25) := ⟨_, rfl⟩
  have bX1 : Below w.heap.size w X1 := by rw [hX1]; exact (Below.refl _ _).alloc (Nat.le_refl _) _
  have D2 := Lib.hid (HD.out.step bX1)
  have B3 := Lib.hid (B0.out.trans (bX1.mono B0.out.size))
  have K4 := Lib.hid (show X1.heap[w.heap.size]? = some (.cells #[.slice A d.secs.length c, .slice A' d.pend.length c', .int .i64 d.left, .bool d.down] 25 (0, 0)) by rw [hX1]; exact blk_new _ _)
  rw [← hX1]
  clear hX1
  refine (HS.out X1).mono ?_
  rintro e v5 ⟨rfl, hbv5⟩
  have K6 := Lib.hid (blk_call K4.out hbv5)
  have D7 := Lib.hid (D2.out.step hbv5)
  have B8 := Lib.hid (B3.out.trans (hbv5.mono B3.out.size))
  clear hbv5
  obtain ⟨⟨a9, a10, a11, a12⟩, a13, a14, a15, a16⟩ := blk4 K6.out
  go_wp2_with fail
  clear a9 a10 a11 a12 a13 a14 a15 a16
  refine (HR.out A c A' c' _ D7.out).mono ?_
  rintro e v17 ⟨rfl, hbv17⟩
  have K18 := Lib.hid (blk_call K6.out hbv17)
  have D19 := Lib.hid (D7.out.step hbv17)
  have B20 := Lib.hid (B8.out.trans (hbv17.mono B8.out.size))
  clear hbv17
  obtain ⟨⟨a21, a22, a23, a24⟩, a25, a26, a27, a28⟩ := blk4 K18.out
  go_wp2_with fail
  go_ret
  exact ⟨rfl, B20.out⟩

set_option maxRecDepth 100000 in
set_option maxHeartbeats 16000000 in
theorem parts_left (d a tog b c2 : Dk) (at_ kk : Int) (s : ByteArray) (A : Option Addr) (c : Nat) (A' : Option Addr) (c' : Nat) (w : World) (hd0 : DiskAt w w.heap.size A c A' c' d)
    (HS : Hid (∀ w, Calls Try.prog 8 #[] w fun e w' => e = .returned (.bool true) ∧ Below w.heap.size w w'))
    (HR : Hid (CallV 27 d [] (.bool true)))
    (g1 : (d.left != -1) = true)
    : Calls Try.prog 7 #[dv A c A' c' d, .int .u8 at_, .string s] w fun e w' => e = .returned (.bool true) ∧ Below w.heap.size w w' := by
  have HD := Lib.hid hd0
  have B0 := Lib.hid (Below.refl w.heap.size w)
  clear hd0
  unfold dv dcells
  go_enter Try.func7, Try.ntmps7
  go_wp2_with fail
  obtain ⟨X1, hX1⟩ : ∃ X, X = w.alloc (.cells #[.slice A d.secs.length c, .slice A' d.pend.length c', .int .i64 d.left, .bool d.down] 25) := ⟨_, rfl⟩
  have bX1 : Below w.heap.size w X1 := by rw [hX1]; exact (Below.refl _ _).alloc (Nat.le_refl _) _
  have D2 := Lib.hid (HD.out.step bX1)
  have B3 := Lib.hid (B0.out.trans (bX1.mono B0.out.size))
  have K4 := Lib.hid (show X1.heap[w.heap.size]? = some (.cells #[.slice A d.secs.length c, .slice A' d.pend.length c', .int .i64 d.left, .bool d.down] 25 (0, 0)) by rw [hX1]; exact blk_new _ _)
  rw [← hX1]
  clear hX1
  refine (HS.out X1).mono ?_
  rintro e v5 ⟨rfl, hbv5⟩
  have K6 := Lib.hid (blk_call K4.out hbv5)
  have D7 := Lib.hid (D2.out.step hbv5)
  have B8 := Lib.hid (B3.out.trans (hbv5.mono B3.out.size))
  clear hbv5
  obtain ⟨⟨a9, a10, a11, a12⟩, a13, a14, a15, a16⟩ := blk4 K6.out
  go_wp2_with fail
  clear a9 a10 a11 a12 a13 a14 a15 a16
  refine (HR.out A c A' c' _ D7.out).mono ?_
  rintro e v17 ⟨rfl, hbv17⟩
  have K18 := Lib.hid (blk_call K6.out hbv17)
  have D19 := Lib.hid (D7.out.step hbv17)
  have B20 := Lib.hid (B8.out.trans (hbv17.mono B8.out.size))
  clear hbv17
  obtain ⟨⟨a21, a22, a23, a24⟩, a25, a26, a27, a28⟩ := blk4 K18.out
  go_wp2_with fail
  go_ret
  exact ⟨rfl, B20.out⟩

set_option maxRecDepth 100000 in
set_option maxHeartbeats 16000000 in
theorem parts_long (d a tog b c2 : Dk) (at_ kk : Int) (s : ByteArray) (A : Option Addr) (c : Nat) (A' : Option Addr) (c' : Nat) (w : World) (hd0 : DiskAt w w.heap.size A c A' c' d)
    (HS : Hid (∀ w, Calls Try.prog 8 #[] w fun e w' => e = .returned (.bool true) ∧ Below w.heap.size w w'))
    (HR : Hid (CallV 27 d [] (.bool true)))
    (g1 : (d.left != -1) = false) (g2 : 16 < s.size)
    : Calls Try.prog 7 #[dv A c A' c' d, .int .u8 at_, .string s] w fun e w' => e = .returned (.bool true) ∧ Below w.heap.size w w' := by
  have HD := Lib.hid hd0
  have B0 := Lib.hid (Below.refl w.heap.size w)
  clear hd0
  unfold dv dcells
  go_enter Try.func7, Try.ntmps7
  go_wp2_with fail
  obtain ⟨X1, hX1⟩ : ∃ X, X = w.alloc (.cells #[.slice A d.secs.length c, .slice A' d.pend.length c', .int .i64 d.left, .bool d.down] 25) := ⟨_, rfl⟩
  have bX1 : Below w.heap.size w X1 := by rw [hX1]; exact (Below.refl _ _).alloc (Nat.le_refl _) _
  have D2 := Lib.hid (HD.out.step bX1)
  have B3 := Lib.hid (B0.out.trans (bX1.mono B0.out.size))
  have K4 := Lib.hid (show X1.heap[w.heap.size]? = some (.cells #[.slice A d.secs.length c, .slice A' d.pend.length c', .int .i64 d.left, .bool d.down] 25 (0, 0)) by rw [hX1]; exact blk_new _ _)
  rw [← hX1]
  clear hX1
  refine (HS.out X1).mono ?_
  rintro e v5 ⟨rfl, hbv5⟩
  have K6 := Lib.hid (blk_call K4.out hbv5)
  have D7 := Lib.hid (D2.out.step hbv5)
  have B8 := Lib.hid (B3.out.trans (hbv5.mono B3.out.size))
  clear hbv5
  obtain ⟨⟨a9, a10, a11, a12⟩, a13, a14, a15, a16⟩ := blk4 K6.out
  go_wp2_with fail
  clear a9 a10 a11 a12 a13 a14 a15 a16
  refine (HR.out A c A' c' _ D7.out).mono ?_
  rintro e v17 ⟨rfl, hbv17⟩
  have K18 := Lib.hid (blk_call K6.out hbv17)
  have D19 := Lib.hid (D7.out.step hbv17)
  have B20 := Lib.hid (B8.out.trans (hbv17.mono B8.out.size))
  clear hbv17
  obtain ⟨⟨a21, a22, a23, a24⟩, a25, a26, a27, a28⟩ := blk4 K18.out
  go_wp2_with fail
  go_ret
  exact ⟨rfl, B20.out⟩

set_option maxRecDepth 100000 in
set_option maxHeartbeats 16000000 in
theorem parts_main (d a tog b c2 : Dk) (at_ kk : Int) (s : ByteArray) (A : Option Addr) (c : Nat) (A' : Option Addr) (c' : Nat) (w : World) (hd0 : DiskAt w w.heap.size A c A' c' d)
    (HS : Hid (∀ w, Calls Try.prog 8 #[] w fun e w' => e = .returned (.bool true) ∧ Below w.heap.size w w'))
    (HR : Hid (CallV 27 d [] (.bool true)))
    (g1 : (d.left != -1) = false) (g2 : s.size ≤ 16) (g3 : 1 ≤ d.secs.length) (g4 : 0 ≤ at_) (g5 : at_ ≤ 255) (hk : at_ % (d.secs.length : Int) = kk)
    (HW1 : Hid (CallD 17 d [.int .i64 kk, .string s] a 0))
    (HF1 : Hid (CallD 19 a [] tog 0))
    (HF2 : Hid (CallD 19 d [] b 0))
    (HW2 : Hid (CallD 17 b [.int .i64 kk, .string s] c2 0))
    (HF3 : Hid (CallD 19 c2 [] tog 0))
    : Calls Try.prog 7 #[dv A c A' c' d, .int .u8 at_, .string s] w fun e w' => e = .returned (.bool true) ∧ Below w.heap.size w w' := by
  have HD := Lib.hid hd0
  have B0 := Lib.hid (Below.refl w.heap.size w)
  clear hd0
  unfold dv dcells
  go_enter Try.func7, Try.ntmps7
  go_wp2_with fail
  obtain ⟨X1, hX1⟩ : ∃ X, X = w.alloc (.cells #[.slice A d.secs.length c, .slice A' d.pend.length c', .int .i64 d.left, .bool d.down] 25) := ⟨_, rfl⟩
  have bX1 : Below w.heap.size w X1 := by rw [hX1]; exact (Below.refl _ _).alloc (Nat.le_refl _) _
  have D2 := Lib.hid (HD.out.step bX1)
  have B3 := Lib.hid (B0.out.trans (bX1.mono B0.out.size))
  have K4 := Lib.hid (show X1.heap[w.heap.size]? = some (.cells #[.slice A d.secs.length c, .slice A' d.pend.length c', .int .i64 d.left, .bool d.down] 25 (0, 0)) by rw [hX1]; exact blk_new _ _)
  rw [← hX1]
  clear hX1
  refine (HS.out X1).mono ?_
  rintro e v5 ⟨rfl, hbv5⟩
  have K6 := Lib.hid (blk_call K4.out hbv5)
  have D7 := Lib.hid (D2.out.step hbv5)
  have B8 := Lib.hid (B3.out.trans (hbv5.mono B3.out.size))
  clear hbv5
  obtain ⟨⟨a9, a10, a11, a12⟩, a13, a14, a15, a16⟩ := blk4 K6.out
  go_wp2_with fail
  clear a9 a10 a11 a12 a13 a14 a15 a16
  refine (HR.out A c A' c' _ D7.out).mono ?_
  rintro e v17 ⟨rfl, hbv17⟩
  have K18 := Lib.hid (blk_call K6.out hbv17)
  have D19 := Lib.hid (D7.out.step hbv17)
  have B20 := Lib.hid (B8.out.trans (hbv17.mono B8.out.size))
  clear hbv17
  obtain ⟨⟨a21, a22, a23, a24⟩, a25, a26, a27, a28⟩ := blk4 K18.out
  go_wp2_with fail
  clear a21 a22 a23 a24 a25 a26 a27 a28
  refine (HW1.out A c A' c' _ D19.out).mono ?_
  rintro e v29 ⟨A30, c31, A32, c33, he, hd, hbv29⟩
  unfold dv dcells at he
  subst he
  have K35 := Lib.hid (blk_call K18.out hbv29)
  have D36 := Lib.hid (D19.out.step hbv29)
  have B37 := Lib.hid (B20.out.trans (hbv29.mono B20.out.size))
  have D34 := Lib.hid hd
  clear hd hbv29
  go_wp2_with fail
  obtain ⟨X38, hX38⟩ : ∃ X, X = v29.alloc (.cells #[.slice A30 a.secs.length c31, .slice A32 a.pend.length c33, .int .i64 a.left, .bool a.down] 25) := ⟨_, rfl⟩
  have bX38 : Below v29.heap.size v29 X38 := by rw [hX38]; exact (Below.refl _ _).alloc (Nat.le_refl _) _
  have K39 := Lib.hid (blk_call K35.out bX38)
  have D40 := Lib.hid (D36.out.step bX38)
  have D41 := Lib.hid (D34.out.step bX38)
  have B42 := Lib.hid (B37.out.trans (bX38.mono B37.out.size))
  have K43 := Lib.hid (show X38.heap[v29.heap.size]? = some (.cells #[.slice A30 a.secs.length c31, .slice A32 a.pend.length c33, .int .i64 a.left, .bool a.down] 25 (0, 0)) by rw [hX38]; exact blk_new _ _)
  rw [← hX38]
  clear hX38
  refine (HF1.out A30 c31 A32 c33 _ D41.out).mono ?_
  rintro e v44 ⟨A45, c46, A47, c48, he, hd, hbv44⟩
  unfold dv dcells at he
  subst he
  have K50 := Lib.hid (blk_call K39.out hbv44)
  have K51 := Lib.hid (blk_call K43.out hbv44)
  have D52 := Lib.hid (D40.out.step hbv44)
  have D53 := Lib.hid (D41.out.step hbv44)
  have B54 := Lib.hid (B42.out.trans (hbv44.mono B42.out.size))
  have D49 := Lib.hid hd
  clear hd hbv44
  obtain ⟨⟨a55, a56, a57, a58⟩, a59, a60, a61, a62⟩ := blk4 K50.out
  have l63 := blk_lt K50.out
  go_wp2_with fail
  clear a55 a56 a57 a58 a59 a60 a61 a62
  obtain ⟨X64, hX64⟩ : ∃ X, X = v44.alloc (.cells #[.slice A45 tog.secs.length c46, .slice A47 tog.pend.length c48, .int .i64 tog.left, .bool tog.down] 25) := ⟨_, rfl⟩
  have bX64 : Below v44.heap.size v44 X64 := by rw [hX64]; exact (Below.refl _ _).alloc (Nat.le_refl _) _
  have K65 := Lib.hid (blk_call K50.out bX64)
  have K66 := Lib.hid (blk_call K51.out bX64)
  have D67 := Lib.hid (D52.out.step bX64)
  have D68 := Lib.hid (D53.out.step bX64)
  have D69 := Lib.hid (D49.out.step bX64)
  have B70 := Lib.hid (B54.out.trans (bX64.mono B54.out.size))
  have K71 := Lib.hid (show X64.heap[v44.heap.size]? = some (.cells #[.slice A45 tog.secs.length c46, .slice A47 tog.pend.length c48, .int .i64 tog.left, .bool tog.down] 25 (0, 0)) by rw [hX64]; exact blk_new _ _)
  rw [← hX64]
  clear hX64
  refine (HF2.out A c A' c' _ D67.out).mono ?_
  rintro e v72 ⟨A73, c74, A75, c76, he, hd, hbv72⟩
  unfold dv dcells at he
  subst he
  have K78 := Lib.hid (blk_call K65.out hbv72)
  have K79 := Lib.hid (blk_call K66.out hbv72)
  have K80 := Lib.hid (blk_call K71.out hbv72)
  have D81 := Lib.hid (D67.out.step hbv72)
  have D82 := Lib.hid (D68.out.step hbv72)
  have D83 := Lib.hid (D69.out.step hbv72)
  have B84 := Lib.hid (B70.out.trans (hbv72.mono B70.out.size))
  have D77 := Lib.hid hd
  clear hd hbv72
  go_wp2_with fail
  obtain ⟨X85, hX85⟩ : ∃ X, X = v72.alloc (.cells #[.slice A73 b.secs.length c74, .slice A75 b.pend.length c76, .int .i64 b.left, .bool b.down] 25) := ⟨_, rfl⟩
  have bX85 : Below v72.heap.size v72 X85 := by rw [hX85]; exact (Below.refl _ _).alloc (Nat.le_refl _) _
  have K86 := Lib.hid (blk_call K78.out bX85)
  have K87 := Lib.hid (blk_call K79.out bX85)
  have K88 := Lib.hid (blk_call K80.out bX85)
  have D89 := Lib.hid (D81.out.step bX85)
  have D90 := Lib.hid (D82.out.step bX85)
  have D91 := Lib.hid (D83.out.step bX85)
  have D92 := Lib.hid (D77.out.step bX85)
  have B93 := Lib.hid (B84.out.trans (bX85.mono B84.out.size))
  have K94 := Lib.hid (show X85.heap[v72.heap.size]? = some (.cells #[.slice A73 b.secs.length c74, .slice A75 b.pend.length c76, .int .i64 b.left, .bool b.down] 25 (0, 0)) by rw [hX85]; exact blk_new _ _)
  rw [← hX85]
  clear hX85
  refine (HW2.out A73 c74 A75 c76 _ D92.out).mono ?_
  rintro e v95 ⟨A96, c97, A98, c99, he, hd, hbv95⟩
  unfold dv dcells at he
  subst he
  have K101 := Lib.hid (blk_call K86.out hbv95)
  have K102 := Lib.hid (blk_call K87.out hbv95)
  have K103 := Lib.hid (blk_call K88.out hbv95)
  have K104 := Lib.hid (blk_call K94.out hbv95)
  have D105 := Lib.hid (D89.out.step hbv95)
  have D106 := Lib.hid (D90.out.step hbv95)
  have D107 := Lib.hid (D91.out.step hbv95)
  have D108 := Lib.hid (D92.out.step hbv95)
  have B109 := Lib.hid (B93.out.trans (hbv95.mono B93.out.size))
  have D100 := Lib.hid hd
  clear hd hbv95
  go_wp2_with fail
  obtain ⟨X110, hX110⟩ : ∃ X, X = v95.alloc (.cells #[.slice A96 c2.secs.length c97, .slice A98 c2.pend.length c99, .int .i64 c2.left, .bool c2.down] 25) := ⟨_, rfl⟩
  have bX110 : Below v95.heap.size v95 X110 := by rw [hX110]; exact (Below.refl _ _).alloc (Nat.le_refl _) _
  have K111 := Lib.hid (blk_call K101.out bX110)
  have K112 := Lib.hid (blk_call K102.out bX110)
  have K113 := Lib.hid (blk_call K103.out bX110)
  have K114 := Lib.hid (blk_call K104.out bX110)
  have D115 := Lib.hid (D105.out.step bX110)
  have D116 := Lib.hid (D106.out.step bX110)
  have D117 := Lib.hid (D107.out.step bX110)
  have D118 := Lib.hid (D108.out.step bX110)
  have D119 := Lib.hid (D100.out.step bX110)
  have B120 := Lib.hid (B109.out.trans (bX110.mono B109.out.size))
  have K121 := Lib.hid (show X110.heap[v95.heap.size]? = some (.cells #[.slice A96 c2.secs.length c97, .slice A98 c2.pend.length c99, .int .i64 c2.left, .bool c2.down] 25 (0, 0)) by rw [hX110]; exact blk_new _ _)
  rw [← hX110]
  clear hX110
  refine (HF3.out A96 c97 A98 c99 _ D119.out).mono ?_
  rintro e v122 ⟨A123, c124, A125, c126, he, hd, hbv122⟩
  unfold dv dcells at he
  subst he
  have K128 := Lib.hid (blk_call K111.out hbv122)
  have K129 := Lib.hid (blk_call K112.out hbv122)
  have K130 := Lib.hid (blk_call K113.out hbv122)
  have K131 := Lib.hid (blk_call K114.out hbv122)
  have K132 := Lib.hid (blk_call K121.out hbv122)
  have D133 := Lib.hid (D115.out.step hbv122)
  have D134 := Lib.hid (D116.out.step hbv122)
  have D135 := Lib.hid (D117.out.step hbv122)
  have D136 := Lib.hid (D118.out.step hbv122)
  have D137 := Lib.hid (D119.out.step hbv122)
  have B138 := Lib.hid (B120.out.trans (hbv122.mono B120.out.size))
  have D127 := Lib.hid hd
  clear hd hbv122
  obtain ⟨⟨a139, a140, a141, a142⟩, a143, a144, a145, a146⟩ := blk4 K130.out
  have l147 := blk_lt K130.out
  go_wp2_with fail
  clear a139 a140 a141 a142 a143 a144 a145 a146
  obtain ⟨X148, hX148⟩ : ∃ X, X = v122.alloc (.cells #[.slice A123 tog.secs.length c124, .slice A125 tog.pend.length c126, .int .i64 tog.left, .bool tog.down] 25) := ⟨_, rfl⟩
  have bX148 : Below v122.heap.size v122 X148 := by rw [hX148]; exact (Below.refl _ _).alloc (Nat.le_refl _) _
  have K149 := Lib.hid (blk_call K128.out bX148)
  have K150 := Lib.hid (blk_call K129.out bX148)
  have K151 := Lib.hid (blk_call K130.out bX148)
  have K152 := Lib.hid (blk_call K131.out bX148)
  have K153 := Lib.hid (blk_call K132.out bX148)
  have D154 := Lib.hid (D133.out.step bX148)
  have D155 := Lib.hid (D134.out.step bX148)
  have D156 := Lib.hid (D135.out.step bX148)
  have D157 := Lib.hid (D136.out.step bX148)
  have D158 := Lib.hid (D137.out.step bX148)
  have D159 := Lib.hid (D127.out.step bX148)
  have B160 := Lib.hid (B138.out.trans (bX148.mono B138.out.size))
  have K161 := Lib.hid (show X148.heap[v122.heap.size]? = some (.cells #[.slice A123 tog.secs.length c124, .slice A125 tog.pend.length c126, .int .i64 tog.left, .bool tog.down] 25 (0, 0)) by rw [hX148]; exact blk_new _ _)
  rw [← hX148]
  clear hX148
  refine (rsame_any A45 c46 A47 c48 A123 c124 A125 c126 tog _ D156.out D159.out).mono ?_
  rintro e v162 ⟨rfl, hbv162⟩
  have K163 := Lib.hid (blk_call K149.out hbv162)
  have K164 := Lib.hid (blk_call K150.out hbv162)
  have K165 := Lib.hid (blk_call K151.out hbv162)
  have K166 := Lib.hid (blk_call K152.out hbv162)
  have K167 := Lib.hid (blk_call K153.out hbv162)
  have K168 := Lib.hid (blk_call K161.out hbv162)
  have D169 := Lib.hid (D154.out.step hbv162)
  have D170 := Lib.hid (D155.out.step hbv162)
  have D171 := Lib.hid (D156.out.step hbv162)
  have D172 := Lib.hid (D157.out.step hbv162)
  have D173 := Lib.hid (D158.out.step hbv162)
  have D174 := Lib.hid (D159.out.step hbv162)
  have B175 := Lib.hid (B160.out.trans (hbv162.mono B160.out.size))
  clear hbv162
  go_wp2_with fail
  go_ret
  exact ⟨rfl, B175.out⟩

end Go.Proofs.Ytlfiooenbgegkaa
