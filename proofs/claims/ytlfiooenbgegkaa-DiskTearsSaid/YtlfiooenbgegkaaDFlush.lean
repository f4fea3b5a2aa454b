/- The walk of DiskFlushes. -/
import Derived.Test.YtlfiooenbgegkaaDm
namespace Go.Proofs.Ytlfiooenbgegkaa
open Go.RowKit Ds
set_option linter.unusedSimpArgs false
set_option linter.unusedVariables false

set_option maxRecDepth 100000 in
set_option maxHeartbeats 16000000 in
theorem flushes_no (d x off on lost back : Dk) (bef : List ByteArray) (A : Option Addr) (c : Nat) (A' : Option Addr) (c' : Nat) (w : World) (hd0 : DiskAt w w.heap.size A c A' c' d)
    (HS : Hid (∀ w, Calls Try.prog 8 #[] w fun e w' => e = .returned (.bool true) ∧ Below w.heap.size w w'))
    (HR : Hid (CallV 27 d [] (.bool false)))
    : Calls Try.prog 5 #[dv A c A' c' d] w fun e w' => e = .returned (.bool true) ∧ Below w.heap.size w w' := by
  have HD := Lib.hid hd0
  have B0 := Lib.hid (Below.refl w.heap.size w)
  clear hd0
  unfold dv dcells
  go_enter Try.func5, Try.ntmps5
  go_wp2_with fail
  obtain ⟨X1, hX1⟩ : ∃ X, X = w.alloc (.cells #[.slice A d.secs.length c, .slice A' d.pend.length c', .int .i64 d.left, .bool d.down] 25) := ⟨_, rfl⟩
  have bX1 : Below w.heap.size w X1 := by rw [hX1]; exact (Below.refl _ _).alloc (Nat.le_refl _) _
  have D2 := Lib.hid (HD.out.step bX1)
  have B3 := Lib.hid (B0.out.trans (bX1.mono B0.out.size))
  have K4 := Lib.hid (show X1.heap[w.heap.size]? = some (.cells #[.slice A d.secs.length c, .slice A' d.pend.length c', .int .i64 d.left, .bool d.down] 25 (0, 0)) by rw [hX1]; exact blk_new _ _)
  rw [← hX1]
  clear hX1
  refine (HS.out X1).mono ?_
  rintro e v5 ⟨rfl, hbv5⟩
  have K6 := Lib.hid (blk_call K4.out hbv5)
  have D7 := Lib.hid (D2.out.step hbv5)
  have B8 := Lib.hid (B3.out.trans (hbv5.mono B3.out.size))
  clear hbv5
  obtain ⟨⟨a9, a10, a11, a12⟩, a13, a14, a15, a16⟩ := blk4 K6.out
  go_wp2_with fail
  clear a9 a10 a11 a12 a13 a14 a15 a16
  refine (HR.out A c A' c' _ D7.out).mono ?_
  rintro e v17 ⟨rfl, hbv17⟩
  have K18 := Lib.hid (blk_call K6.out hbv17)
  have D19 := Lib.hid (D7.out.step hbv17)
  have B20 := Lib.hid (B8.out.trans (hbv17.mono B8.out.size))
  clear hbv17
  obtain ⟨⟨a21, a22, a23, a24⟩, a25, a26, a27, a28⟩ := blk4 K18.out
  go_wp2_with fail
  go_ret
  exact ⟨rfl, B20.out⟩

set_option maxRecDepth 100000 in
set_option maxHeartbeats 16000000 in
theorem flushes_cut (d x off on lost back : Dk) (bef : List ByteArray) (A : Option Addr) (c : Nat) (A' : Option Addr) (c' : Nat) (w : World) (hd0 : DiskAt w w.heap.size A c A' c' d)
    (HS : Hid (∀ w, Calls Try.prog 8 #[] w fun e w' => e = .returned (.bool true) ∧ Below w.heap.size w w'))
    (HR : Hid (CallV 27 d [] (.bool true)))
    (g3 : 0 ≤ d.left) (g4 : d.left < (d.pend.length : Int))
    : Calls Try.prog 5 #[dv A c A' c' d] w fun e w' => e = .returned (.bool true) ∧ Below w.heap.size w w' := by
  have HD := Lib.hid hd0
  have B0 := Lib.hid (Below.refl w.heap.size w)
  clear hd0
  unfold dv dcells
  go_enter Try.func5, Try.ntmps5
  go_wp2_with fail
  obtain ⟨X1, hX1⟩ : ∃ X, X = w.alloc (.cells #[.slice A d.secs.length c, .slice A' d.pend.length c', .int .i64 d.left, .bool d.down] 25) := ⟨_, rfl⟩
  have bX1 : Below w.heap.size w X1 := by rw [hX1]; exact (Below.refl _ _).alloc (Nat.le_refl _) _
  have D2 := Lib.hid (HD.out.step bX1)
  have B3 := Lib.hid (B0.out.trans (bX1.mono B0.out.size))
  have K4 := Lib.hid (show X1.heap[w.heap.size]? = some (.cells #[.slice A d.secs.length c, .slice A' d.pend.length c', .int .i64 d.left, .bool d.down] 25 (0, 0)) by rw [hX1]; exact blk_new _ _)
  rw [← hX1]
  clear hX1
  refine (HS.out X1).mono ?_
  rintro e v5 ⟨rfl, hbv5⟩
  have K6 := Lib.hid (blk_call K4.out hbv5)
  have D7 := Lib.hid (D2.out.step hbv5)
  have B8 := Lib.hid (B3.out.trans (hbv5.mono B3.out.size))
  clear hbv5
  obtain ⟨⟨a9, a10, a11, a12⟩, a13, a14, a15, a16⟩ := blk4 K6.out
  go_wp2_with fail
  clear a9 a10 a11 a12 a13 a14 a15 a16
  refine (HR.out A c A' c' _ D7.out).mono ?_
  rintro e v17 ⟨rfl, hbv17⟩
  have K18 := Lib.hid (blk_call K6.out hbv17)
  have D19 := Lib.hid (D7.out.step hbv17)
  have B20 := Lib.hid (B8.out.trans (hbv17.mono B8.out.size))
  clear hbv17
  obtain ⟨⟨a21, a22, a23, a24⟩, a25, a26, a27, a28⟩ := blk4 K18.out
  go_wp2_with fail
  go_ret
  exact ⟨rfl, B20.out⟩

set_option maxRecDepth 100000 in
set_option maxHeartbeats 16000000 in
theorem flushes_one (d x off on lost back : Dk) (bef : List ByteArray) (A : Option Addr) (c : Nat) (A' : Option Addr) (c' : Nat) (w : World) (hd0 : DiskAt w w.heap.size A c A' c' d)
    (HS : Hid (∀ w, Calls Try.prog 8 #[] w fun e w' => e = .returned (.bool true) ∧ Below w.heap.size w w'))
    (HR : Hid (CallV 27 d [] (.bool true)))
    (HC1 : Hid (∀ A c A' c' w, DiskAt w w.heap.size A c A' c' d → Calls Try.prog 28 #[dv A c A' c' d] w (ListEnd w bef true)))
    (HF : Hid (CallD 19 d [] x 0))
    (HC2 : Hid (∀ A c A' c' w, DiskAt w w.heap.size A c A' c' x → Calls Try.prog 28 #[dv A c A' c' x] w (ListEnd w bef true)))
    (HK : Hid (CallV 13 x [] (.int .i64 0)))
    (HO : Hid (CallD 23 x [] off 0)) (HN : Hid (CallD 25 off [] on 0))
    (HC3 : Hid (∀ A c A' c' w, DiskAt w w.heap.size A c A' c' on → Calls Try.prog 28 #[dv A c A' c' on] w (ListEnd w bef true)))
    (HL : Hid (CallD 23 d [] lost 0)) (HB : Hid (CallD 25 lost [] back 0))
    (HC4 : Hid (∀ A c A' c' w, DiskAt w w.heap.size A c A' c' back → Calls Try.prog 28 #[dv A c A' c' back] w (ListEnd w d.secs true)))
    (hx : x.pend.length ≤ 0) (hbl : bef.length ≤ 4611686018427387904) (hsl : d.secs.length ≤ 4611686018427387904) (hl5 : d.left ≤ 512) (hp5 : d.pend.length ≤ 512)
    (g1 : (d.left == -1) = true) (g2 : (x.left != -1) = false) (g3 : d.left < 0)
    : Calls Try.prog 5 #[dv A c A' c' d] w fun e w' => e = .returned (.bool true) ∧ Below w.heap.size w w' := by
  have HD := Lib.hid hd0
  have B0 := Lib.hid (Below.refl w.heap.size w)
  clear hd0
  unfold dv dcells
  go_enter Try.func5, Try.ntmps5
  go_wp2_with fail
  obtain ⟨X1, hX1⟩ : ∃ X, X = w.alloc (.cells #[.slice A d.secs.length c, .slice A' d.pend.length c', .int .i64 d.left, .bool d.down] 25) := ⟨_, rfl⟩
  have bX1 : Below w.heap.size w X1 := by rw [hX1]; exact (Below.refl _ _).alloc (Nat.le_refl _) _
  have D2 := Lib.hid (HD.out.step bX1)
  have B3 := Lib.hid (B0.out.trans (bX1.mono B0.out.size))
  have K4 := Lib.hid (show X1.heap[w.heap.size]? = some (.cells #[.slice A d.secs.length c, .slice A' d.pend.length c', .int .i64 d.left, .bool d.down] 25 (0, 0)) by rw [hX1]; exact blk_new _ _)
  rw [← hX1]
  clear hX1
  refine (HS.out X1).mono ?_
  rintro e v5 ⟨rfl, hbv5⟩
  have K6 := Lib.hid (blk_call K4.out hbv5)
  have D7 := Lib.hid (D2.out.step hbv5)
  have B8 := Lib.hid (B3.out.trans (hbv5.mono B3.out.size))
  clear hbv5
  obtain ⟨⟨a9, a10, a11, a12⟩, a13, a14, a15, a16⟩ := blk4 K6.out
  go_wp2_with fail
  clear a9 a10 a11 a12 a13 a14 a15 a16
  refine (HR.out A c A' c' _ D7.out).mono ?_
  rintro e v17 ⟨rfl, hbv17⟩
  have K18 := Lib.hid (blk_call K6.out hbv17)
  have D19 := Lib.hid (D7.out.step hbv17)
  have B20 := Lib.hid (B8.out.trans (hbv17.mono B8.out.size))
  clear hbv17
  obtain ⟨⟨a21, a22, a23, a24⟩, a25, a26, a27, a28⟩ := blk4 K18.out
  go_wp2_with fail
  clear a21 a22 a23 a24 a25 a26 a27 a28
  refine (HC1.out A c A' c' _ D19.out).mono ?_
  rintro e v29 ⟨A30, c31, rfl, hd, hbv29⟩
  have K33 := Lib.hid (blk_call K18.out hbv29)
  have D34 := Lib.hid (D19.out.step hbv29)
  have B35 := Lib.hid (B20.out.trans (hbv29.mono B20.out.size))
  have R32 := Lib.hid hd
  clear hd hbv29
  obtain ⟨⟨a36, a37, a38, a39⟩, a40, a41, a42, a43⟩ := blk4 K33.out
  go_wp2_with fail
  clear a36 a37 a38 a39 a40 a41 a42 a43
  refine (HF.out A c A' c' _ D34.out).mono ?_
  rintro e v44 ⟨A45, c46, A47, c48, he, hd, hbv44⟩
  unfold dv dcells at he
  subst he
  have K50 := Lib.hid (blk_call K33.out hbv44)
  have D51 := Lib.hid (D34.out.step hbv44)
  have R52 := Lib.hid (R32.out.step hbv44)
  have B53 := Lib.hid (B35.out.trans (hbv44.mono B35.out.size))
  have D49 := Lib.hid hd
  clear hd hbv44
  go_wp2_with fail
  obtain ⟨X54, hX54⟩ : ∃ X, X = v44.alloc (.cells #[.slice A45 x.secs.length c46, .slice A47 x.pend.length c48, .int .i64 x.left, .bool x.down] 25) := ⟨_, rfl⟩
  have bX54 : Below v44.heap.size v44 X54 := by rw [hX54]; exact (Below.refl _ _).alloc (Nat.le_refl _) _
  have K55 := Lib.hid (blk_call K50.out bX54)
  have D56 := Lib.hid (D51.out.step bX54)
  have D57 := Lib.hid (D49.out.step bX54)
  have R58 := Lib.hid (R52.out.step bX54)
  have B59 := Lib.hid (B53.out.trans (bX54.mono B53.out.size))
  have K60 := Lib.hid (show X54.heap[v44.heap.size]? = some (.cells #[.slice A45 x.secs.length c46, .slice A47 x.pend.length c48, .int .i64 x.left, .bool x.down] 25 (0, 0)) by rw [hX54]; exact blk_new _ _)
  rw [← hX54]
  clear hX54
  refine (HC2.out A45 c46 A47 c48 _ D57.out).mono ?_
  rintro e v61 ⟨A62, c63, rfl, hd, hbv61⟩
  have K65 := Lib.hid (blk_call K55.out hbv61)
  have K66 := Lib.hid (blk_call K60.out hbv61)
  have D67 := Lib.hid (D56.out.step hbv61)
  have D68 := Lib.hid (D57.out.step hbv61)
  have R69 := Lib.hid (R58.out.step hbv61)
  have B70 := Lib.hid (B59.out.trans (hbv61.mono B59.out.size))
  have R64 := Lib.hid hd
  clear hd hbv61
  obtain ⟨⟨a71, a72, a73, a74⟩, a75, a76, a77, a78⟩ := blk4 K65.out
  obtain ⟨⟨a79, a80, a81, a82⟩, a83, a84, a85, a86⟩ := blk4 K66.out
  go_wp2_with fail
  clear a71 a72 a73 a74 a75 a76 a77 a78 a79 a80 a81 a82 a83 a84 a85 a86
  refine (same_any A30 c31 A62 c63 bef _ R69.out R64.out hbl).mono ?_
  rintro e v87 ⟨rfl, hbv87⟩
  have K88 := Lib.hid (blk_call K65.out hbv87)
  have K89 := Lib.hid (blk_call K66.out hbv87)
  have D90 := Lib.hid (D67.out.step hbv87)
  have D91 := Lib.hid (D68.out.step hbv87)
  have R92 := Lib.hid (R69.out.step hbv87)
  have R93 := Lib.hid (R64.out.step hbv87)
  have B94 := Lib.hid (B70.out.trans (hbv87.mono B70.out.size))
  clear hbv87
  obtain ⟨⟨a95, a96, a97, a98⟩, a99, a100, a101, a102⟩ := blk4 K88.out
  obtain ⟨⟨a103, a104, a105, a106⟩, a107, a108, a109, a110⟩ := blk4 K89.out
  go_wp2_with fail
  clear a95 a96 a97 a98 a99 a100 a101 a102 a103 a104 a105 a106 a107 a108 a109 a110
  refine (HK.out A45 c46 A47 c48 _ D91.out).mono ?_
  rintro e v111 ⟨rfl, hbv111⟩
  have K112 := Lib.hid (blk_call K88.out hbv111)
  have K113 := Lib.hid (blk_call K89.out hbv111)
  have D114 := Lib.hid (D90.out.step hbv111)
  have D115 := Lib.hid (D91.out.step hbv111)
  have R116 := Lib.hid (R92.out.step hbv111)
  have R117 := Lib.hid (R93.out.step hbv111)
  have B118 := Lib.hid (B94.out.trans (hbv111.mono B94.out.size))
  clear hbv111
  obtain ⟨⟨a119, a120, a121, a122⟩, a123, a124, a125, a126⟩ := blk4 K112.out
  obtain ⟨⟨a127, a128, a129, a130⟩, a131, a132, a133, a134⟩ := blk4 K113.out
  go_wp2_with fail
  clear a119 a120 a121 a122 a123 a124 a125 a126 a127 a128 a129 a130 a131 a132 a133 a134
  refine (HO.out A45 c46 A47 c48 _ D115.out).mono ?_
  rintro e v135 ⟨A136, c137, A138, c139, he, hd, hbv135⟩
  unfold dv dcells at he
  subst he
  have K141 := Lib.hid (blk_call K112.out hbv135)
  have K142 := Lib.hid (blk_call K113.out hbv135)
  have D143 := Lib.hid (D114.out.step hbv135)
  have D144 := Lib.hid (D115.out.step hbv135)
  have R145 := Lib.hid (R116.out.step hbv135)
  have R146 := Lib.hid (R117.out.step hbv135)
  have B147 := Lib.hid (B118.out.trans (hbv135.mono B118.out.size))
  have D140 := Lib.hid hd
  clear hd hbv135
  go_wp2_with fail
  obtain ⟨X148, hX148⟩ : ∃ X, X = v135.alloc (.cells #[.slice A136 off.secs.length c137, .slice A138 off.pend.length c139, .int .i64 off.left, .bool off.down] 25) := ⟨_, rfl⟩
  have bX148 : Below v135.heap.size v135 X148 := by rw [hX148]; exact (Below.refl _ _).alloc (Nat.le_refl _) _
  have K149 := Lib.hid (blk_call K141.out bX148)
  have K150 := Lib.hid (blk_call K142.out bX148)
  have D151 := Lib.hid (D143.out.step bX148)
  have D152 := Lib.hid (D144.out.step bX148)
  have D153 := Lib.hid (D140.out.step bX148)
  have R154 := Lib.hid (R145.out.step bX148)
  have R155 := Lib.hid (R146.out.step bX148)
  have B156 := Lib.hid (B147.out.trans (bX148.mono B147.out.size))
  have K157 := Lib.hid (show X148.heap[v135.heap.size]? = some (.cells #[.slice A136 off.secs.length c137, .slice A138 off.pend.length c139, .int .i64 off.left, .bool off.down] 25 (0, 0)) by rw [hX148]; exact blk_new _ _)
  rw [← hX148]
  clear hX148
  refine (HN.out A136 c137 A138 c139 _ D153.out).mono ?_
  rintro e v158 ⟨A159, c160, A161, c162, he, hd, hbv158⟩
  unfold dv dcells at he
  subst he
  have K164 := Lib.hid (blk_call K149.out hbv158)
  have K165 := Lib.hid (blk_call K150.out hbv158)
  have K166 := Lib.hid (blk_call K157.out hbv158)
  have D167 := Lib.hid (D151.out.step hbv158)
  have D168 := Lib.hid (D152.out.step hbv158)
  have D169 := Lib.hid (D153.out.step hbv158)
  have R170 := Lib.hid (R154.out.step hbv158)
  have R171 := Lib.hid (R155.out.step hbv158)
  have B172 := Lib.hid (B156.out.trans (hbv158.mono B156.out.size))
  have D163 := Lib.hid hd
  clear hd hbv158
  go_wp2_with fail
  obtain ⟨X173, hX173⟩ : ∃ X, X = v158.alloc (.cells #[.slice A159 on.secs.length c160, .slice A161 on.pend.length c162, .int .i64 on.left, .bool on.down] 25) := ⟨_, rfl⟩
  have bX173 : Below v158.heap.size v158 X173 := by rw [hX173]; exact (Below.refl _ _).alloc (Nat.le_refl _) _
  have K174 := Lib.hid (blk_call K164.out bX173)
  have K175 := Lib.hid (blk_call K165.out bX173)
  have K176 := Lib.hid (blk_call K166.out bX173)
  have D177 := Lib.hid (D167.out.step bX173)
  have D178 := Lib.hid (D168.out.step bX173)
  have D179 := Lib.hid (D169.out.step bX173)
  have D180 := Lib.hid (D163.out.step bX173)
  have R181 := Lib.hid (R170.out.step bX173)
  have R182 := Lib.hid (R171.out.step bX173)
  have B183 := Lib.hid (B172.out.trans (bX173.mono B172.out.size))
  have K184 := Lib.hid (show X173.heap[v158.heap.size]? = some (.cells #[.slice A159 on.secs.length c160, .slice A161 on.pend.length c162, .int .i64 on.left, .bool on.down] 25 (0, 0)) by rw [hX173]; exact blk_new _ _)
  rw [← hX173]
  clear hX173
  refine (HC3.out A159 c160 A161 c162 _ D180.out).mono ?_
  rintro e v185 ⟨A186, c187, rfl, hd, hbv185⟩
  have K189 := Lib.hid (blk_call K174.out hbv185)
  have K190 := Lib.hid (blk_call K175.out hbv185)
  have K191 := Lib.hid (blk_call K176.out hbv185)
  have K192 := Lib.hid (blk_call K184.out hbv185)
  have D193 := Lib.hid (D177.out.step hbv185)
  have D194 := Lib.hid (D178.out.step hbv185)
  have D195 := Lib.hid (D179.out.step hbv185)
  have D196 := Lib.hid (D180.out.step hbv185)
  have R197 := Lib.hid (R181.out.step hbv185)
  have R198 := Lib.hid (R182.out.step hbv185)
  have B199 := Lib.hid (B183.out.trans (hbv185.mono B183.out.size))
  have R188 := Lib.hid hd
  clear hd hbv185
  obtain ⟨⟨a200, a201, a202, a203⟩, a204, a205, a206, a207⟩ := blk4 K189.out
  go_wp2_with fail
  clear a200 a201 a202 a203 a204 a205 a206 a207
  refine (HL.out A c A' c' _ D193.out).mono ?_
  rintro e v208 ⟨A209, c210, A211, c212, he, hd, hbv208⟩
  unfold dv dcells at he
  subst he
  have K214 := Lib.hid (blk_call K189.out hbv208)
  have K215 := Lib.hid (blk_call K190.out hbv208)
  have K216 := Lib.hid (blk_call K191.out hbv208)
  have K217 := Lib.hid (blk_call K192.out hbv208)
  have D218 := Lib.hid (D193.out.step hbv208)
  have D219 := Lib.hid (D194.out.step hbv208)
  have D220 := Lib.hid (D195.out.step hbv208)
  have D221 := Lib.hid (D196.out.step hbv208)
  have R222 := Lib.hid (R197.out.step hbv208)
  have R223 := Lib.hid (R198.out.step hbv208)
  have R224 := Lib.hid (R188.out.step hbv208)
  have B225 := Lib.hid (B199.out.trans (hbv208.mono B199.out.size))
  have D213 := Lib.hid hd
  clear hd hbv208
  go_wp2_with fail
  obtain ⟨X226, hX226⟩ : ∃ X, X = v208.alloc (.cells #[.slice A209 lost.secs.length c210, .slice A211 lost.pend.length c212, .int .i64 lost.left, .bool lost.down] 25) := ⟨_, rfl⟩
  have bX226 : Below v208.heap.size v208 X226 := by rw [hX226]; exact (Below.refl _ _).alloc (Nat.le_refl _) _
  have K227 := Lib.hid (blk_call K214.out bX226)
  have K228 := Lib.hid (blk_call K215.out bX226)
  have K229 := Lib.hid (blk_call K216.out bX226)
  have K230 := Lib.hid (blk_call K217.out bX226)
  have D231 := Lib.hid (D218.out.step bX226)
  have D232 := Lib.hid (D219.out.step bX226)
  have D233 := Lib.hid (D220.out.step bX226)
  have D234 := Lib.hid (D221.out.step bX226)
  have D235 := Lib.hid (D213.out.step bX226)
  have R236 := Lib.hid (R222.out.step bX226)
  have R237 := Lib.hid (R223.out.step bX226)
  have R238 := Lib.hid (R224.out.step bX226)
  have B239 := Lib.hid (B225.out.trans (bX226.mono B225.out.size))
  have K240 := Lib.hid (show X226.heap[v208.heap.size]? = some (.cells #[.slice A209 lost.secs.length c210, .slice A211 lost.pend.length c212, .int .i64 lost.left, .bool lost.down] 25 (0, 0)) by rw [hX226]; exact blk_new _ _)
  rw [← hX226]
  clear hX226
  refine (HB.out A209 c210 A211 c212 _ D235.out).mono ?_
  rintro e v241 ⟨A242, c243, A244, c245, he, hd, hbv241⟩
  unfold dv dcells at he
  subst he
  have K247 := Lib.hid (blk_call K227.out hbv241)
  have K248 := Lib.hid (blk_call K228.out hbv241)
  have K249 := Lib.hid (blk_call K229.out hbv241)
  have K250 := Lib.hid (blk_call K230.out hbv241)
  have K251 := Lib.hid (blk_call K240.out hbv241)
  have D252 := Lib.hid (D231.out.step hbv241)
  have D253 := Lib.hid (D232.out.step hbv241)
  have D254 := Lib.hid (D233.out.step hbv241)
  have D255 := Lib.hid (D234.out.step hbv241)
  have D256 := Lib.hid (D235.out.step hbv241)
  have R257 := Lib.hid (R236.out.step hbv241)
  have R258 := Lib.hid (R237.out.step hbv241)
  have R259 := Lib.hid (R238.out.step hbv241)
  have B260 := Lib.hid (B239.out.trans (hbv241.mono B239.out.size))
  have D246 := Lib.hid hd
  clear hd hbv241
  go_wp2_with fail
  obtain ⟨X261, hX261⟩ : ∃ X, X = v241.alloc (.cells #[.slice A242 back.secs.length c243, .slice A244 back.pend.length c245, .int .i64 back.left, .bool back.down] 25) := ⟨_, rfl⟩
  have bX261 : Below v241.heap.size v241 X261 := by rw [hX261]; exact (Below.refl _ _).alloc (Nat.le_refl _) _
  have K262 := Lib.hid (blk_call K247.out bX261)
  have K263 := Lib.hid (blk_call K248.out bX261)
  have K264 := Lib.hid (blk_call K249.out bX261)
  have K265 := Lib.hid (blk_call K250.out bX261)
  have K266 := Lib.hid (blk_call K251.out bX261)
  have D267 := Lib.hid (D252.out.step bX261)
  have D268 := Lib.hid (D253.out.step bX261)
  have D269 := Lib.hid (D254.out.step bX261)
  have D270 := Lib.hid (D255.out.step bX261)
  have D271 := Lib.hid (D256.out.step bX261)
  have D272 := Lib.hid (D246.out.step bX261)
  have R273 := Lib.hid (R257.out.step bX261)
  have R274 := Lib.hid (R258.out.step bX261)
  have R275 := Lib.hid (R259.out.step bX261)
  have B276 := Lib.hid (B260.out.trans (bX261.mono B260.out.size))
  have K277 := Lib.hid (show X261.heap[v241.heap.size]? = some (.cells #[.slice A242 back.secs.length c243, .slice A244 back.pend.length c245, .int .i64 back.left, .bool back.down] 25 (0, 0)) by rw [hX261]; exact blk_new _ _)
  rw [← hX261]
  clear hX261
  refine (HC4.out A242 c243 A244 c245 _ D272.out).mono ?_
  rintro e v278 ⟨A279, c280, rfl, hd, hbv278⟩
  have K282 := Lib.hid (blk_call K262.out hbv278)
  have K283 := Lib.hid (blk_call K263.out hbv278)
  have K284 := Lib.hid (blk_call K264.out hbv278)
  have K285 := Lib.hid (blk_call K265.out hbv278)
  have K286 := Lib.hid (blk_call K266.out hbv278)
  have K287 := Lib.hid (blk_call K277.out hbv278)
  have D288 := Lib.hid (D267.out.step hbv278)
  have D289 := Lib.hid (D268.out.step hbv278)
  have D290 := Lib.hid (D269.out.step hbv278)
  have D291 := Lib.hid (D270.out.step hbv278)
  have D292 := Lib.hid (D271.out.step hbv278)
  have D293 := Lib.hid (D272.out.step hbv278)
  have R294 := Lib.hid (R273.out.step hbv278)
  have R295 := Lib.hid (R274.out.step hbv278)
  have R296 := Lib.hid (R275.out.step hbv278)
  have B297 := Lib.hid (B276.out.trans (hbv278.mono B276.out.size))
  have R281 := Lib.hid hd
  clear hd hbv278
  obtain ⟨⟨a298, a299, a300, a301⟩, a302, a303, a304, a305⟩ := blk4 K282.out
  go_wp2_with fail
  clear a298 a299 a300 a301 a302 a303 a304 a305
  refine (same_any A186 c187 A30 c31 bef _ R296.out R294.out hbl).mono ?_
  rintro e v306 ⟨rfl, hbv306⟩
  have K307 := Lib.hid (blk_call K282.out hbv306)
  have K308 := Lib.hid (blk_call K283.out hbv306)
  have K309 := Lib.hid (blk_call K284.out hbv306)
  have K310 := Lib.hid (blk_call K285.out hbv306)
  have K311 := Lib.hid (blk_call K286.out hbv306)
  have K312 := Lib.hid (blk_call K287.out hbv306)
  have D313 := Lib.hid (D288.out.step hbv306)
  have D314 := Lib.hid (D289.out.step hbv306)
  have D315 := Lib.hid (D290.out.step hbv306)
  have D316 := Lib.hid (D291.out.step hbv306)
  have D317 := Lib.hid (D292.out.step hbv306)
  have D318 := Lib.hid (D293.out.step hbv306)
  have R319 := Lib.hid (R294.out.step hbv306)
  have R320 := Lib.hid (R295.out.step hbv306)
  have R321 := Lib.hid (R296.out.step hbv306)
  have R322 := Lib.hid (R281.out.step hbv306)
  have B323 := Lib.hid (B297.out.trans (hbv306.mono B297.out.size))
  clear hbv306
  obtain ⟨⟨a324, a325, a326, a327⟩, a328, a329, a330, a331⟩ := blk4 K307.out
  go_wp2_with fail
  have HSEC := Lib.hid (D313.out.secs)
  clear a324 a325 a326 a327 a328 a329 a330 a331
  refine (same_any A279 c280 A c d.secs _ R322.out HSEC.out hsl).mono ?_
  rintro e v332 ⟨rfl, hbv332⟩
  have K333 := Lib.hid (blk_call K307.out hbv332)
  have K334 := Lib.hid (blk_call K308.out hbv332)
  have K335 := Lib.hid (blk_call K309.out hbv332)
  have K336 := Lib.hid (blk_call K310.out hbv332)
  have K337 := Lib.hid (blk_call K311.out hbv332)
  have K338 := Lib.hid (blk_call K312.out hbv332)
  have D339 := Lib.hid (D313.out.step hbv332)
  have D340 := Lib.hid (D314.out.step hbv332)
  have D341 := Lib.hid (D315.out.step hbv332)
  have D342 := Lib.hid (D316.out.step hbv332)
  have D343 := Lib.hid (D317.out.step hbv332)
  have D344 := Lib.hid (D318.out.step hbv332)
  have R345 := Lib.hid (R319.out.step hbv332)
  have R346 := Lib.hid (R320.out.step hbv332)
  have R347 := Lib.hid (R321.out.step hbv332)
  have R348 := Lib.hid (R322.out.step hbv332)
  have R349 := Lib.hid (HSEC.out.step hbv332)
  have B350 := Lib.hid (B323.out.trans (hbv332.mono B323.out.size))
  clear hbv332
  go_wp2_with fail
  go_ret
  exact ⟨rfl, B350.out⟩

set_option maxRecDepth 100000 in
set_option maxHeartbeats 16000000 in
theorem flushes_two (d x off on lost back : Dk) (bef : List ByteArray) (A : Option Addr) (c : Nat) (A' : Option Addr) (c' : Nat) (w : World) (hd0 : DiskAt w w.heap.size A c A' c' d)
    (HS : Hid (∀ w, Calls Try.prog 8 #[] w fun e w' => e = .returned (.bool true) ∧ Below w.heap.size w w'))
    (HR : Hid (CallV 27 d [] (.bool true)))
    (HC1 : Hid (∀ A c A' c' w, DiskAt w w.heap.size A c A' c' d → Calls Try.prog 28 #[dv A c A' c' d] w (ListEnd w bef true)))
    (HF : Hid (CallD 19 d [] x 0))
    (HC2 : Hid (∀ A c A' c' w, DiskAt w w.heap.size A c A' c' x → Calls Try.prog 28 #[dv A c A' c' x] w (ListEnd w bef true)))
    (HK : Hid (CallV 13 x [] (.int .i64 0)))
    (HO : Hid (CallD 23 x [] off 0)) (HN : Hid (CallD 25 off [] on 0))
    (HC3 : Hid (∀ A c A' c' w, DiskAt w w.heap.size A c A' c' on → Calls Try.prog 28 #[dv A c A' c' on] w (ListEnd w bef true)))
    (HL : Hid (CallD 23 d [] lost 0)) (HB : Hid (CallD 25 lost [] back 0))
    (HC4 : Hid (∀ A c A' c' w, DiskAt w w.heap.size A c A' c' back → Calls Try.prog 28 #[dv A c A' c' back] w (ListEnd w d.secs true)))
    (hx : x.pend.length ≤ 0) (hbl : bef.length ≤ 4611686018427387904) (hsl : d.secs.length ≤ 4611686018427387904) (hl5 : d.left ≤ 512) (hp5 : d.pend.length ≤ 512)
    (g1 : (d.left == -1) = false) (g2 : (x.left != d.left - (d.pend.length : Int)) = false) (g3 : 0 ≤ d.left) (g4 : (d.pend.length : Int) ≤ d.left)
    : Calls Try.prog 5 #[dv A c A' c' d] w fun e w' => e = .returned (.bool true) ∧ Below w.heap.size w w' := by
  have HD := Lib.hid hd0
  have B0 := Lib.hid (Below.refl w.heap.size w)
  clear hd0
  unfold dv dcells
  go_enter Try.func5, Try.ntmps5
  go_wp2_with fail
  obtain ⟨X1, hX1⟩ : ∃ X, X = w.alloc (.cells #[.slice A d.secs.length c, .slice A' d.pend.length c', .int .i64 d.left, .bool d.down] 25) := ⟨_, rfl⟩
  have bX1 : Below w.heap.size w X1 := by rw [hX1]; exact (Below.refl _ _).alloc (Nat.le_refl _) _
  have D2 := Lib.hid (HD.out.step bX1)
  have B3 := Lib.hid (B0.out.trans (bX1.mono B0.out.size))
  have K4 := Lib.hid (show X1.heap[w.heap.size]? = some (.cells #[.slice A d.secs.length c, .slice A' d.pend.length c', .int .i64 d.left, .bool d.down] 25 (0, 0)) by rw [hX1]; exact blk_new _ _)
  rw [← hX1]
  clear hX1
  refine (HS.out X1).mono ?_
  rintro e v5 ⟨rfl, hbv5⟩
  have K6 := Lib.hid (blk_call K4.out hbv5)
  have D7 := Lib.hid (D2.out.step hbv5)
  have B8 := Lib.hid (B3.out.trans (hbv5.mono B3.out.size))
  clear hbv5
  obtain ⟨⟨a9, a10, a11, a12⟩, a13, a14, a15, a16⟩ := blk4 K6.out
  go_wp2_with fail
  clear a9 a10 a11 a12 a13 a14 a15 a16
  refine (HR.out A c A' c' _ D7.out).mono ?_
  rintro e v17 ⟨rfl, hbv17⟩
  have K18 := Lib.hid (blk_call K6.out hbv17)
  have D19 := Lib.hid (D7.out.step hbv17)
  have B20 := Lib.hid (B8.out.trans (hbv17.mono B8.out.size))
  clear hbv17
  obtain ⟨⟨a21, a22, a23, a24⟩, a25, a26, a27, a28⟩ := blk4 K18.out
  go_wp2_with fail
  clear a21 a22 a23 a24 a25 a26 a27 a28
  refine (HC1.out A c A' c' _ D19.out).mono ?_
  rintro e v29 ⟨A30, c31, rfl, hd, hbv29⟩
  have K33 := Lib.hid (blk_call K18.out hbv29)
  have D34 := Lib.hid (D19.out.step hbv29)
  have B35 := Lib.hid (B20.out.trans (hbv29.mono B20.out.size))
  have R32 := Lib.hid hd
  clear hd hbv29
  obtain ⟨⟨a36, a37, a38, a39⟩, a40, a41, a42, a43⟩ := blk4 K33.out
  go_wp2_with fail
  clear a36 a37 a38 a39 a40 a41 a42 a43
  refine (HF.out A c A' c' _ D34.out).mono ?_
  rintro e v44 ⟨A45, c46, A47, c48, he, hd, hbv44⟩
  unfold dv dcells at he
  subst he
  have K50 := Lib.hid (blk_call K33.out hbv44)
  have D51 := Lib.hid (D34.out.step hbv44)
  have R52 := Lib.hid (R32.out.step hbv44)
  have B53 := Lib.hid (B35.out.trans (hbv44.mono B35.out.size))
  have D49 := Lib.hid hd
  clear hd hbv44
  go_wp2_with fail
  obtain ⟨X54, hX54⟩ : ∃ X, X = v44.alloc (.cells #[.slice A45 x.secs.length c46, .slice A47 x.pend.length c48, .int .i64 x.left, .bool x.down] 25) := ⟨_, rfl⟩
  have bX54 : Below v44.heap.size v44 X54 := by rw [hX54]; exact (Below.refl _ _).alloc (Nat.le_refl _) _
  have K55 := Lib.hid (blk_call K50.out bX54)
  have D56 := Lib.hid (D51.out.step bX54)
  have D57 := Lib.hid (D49.out.step bX54)
  have R58 := Lib.hid (R52.out.step bX54)
  have B59 := Lib.hid (B53.out.trans (bX54.mono B53.out.size))
  have K60 := Lib.hid (show X54.heap[v44.heap.size]? = some (.cells #[.slice A45 x.secs.length c46, .slice A47 x.pend.length c48, .int .i64 x.left, .bool x.down] 25 (0, 0)) by rw [hX54]; exact blk_new _ _)
  rw [← hX54]
  clear hX54
  refine (HC2.out A45 c46 A47 c48 _ D57.out).mono ?_
  rintro e v61 ⟨A62, c63, rfl, hd, hbv61⟩
  have K65 := Lib.hid (blk_call K55.out hbv61)
  have K66 := Lib.hid (blk_call K60.out hbv61)
  have D67 := Lib.hid (D56.out.step hbv61)
  have D68 := Lib.hid (D57.out.step hbv61)
  have R69 := Lib.hid (R58.out.step hbv61)
  have B70 := Lib.hid (B59.out.trans (hbv61.mono B59.out.size))
  have R64 := Lib.hid hd
  clear hd hbv61
  obtain ⟨⟨a71, a72, a73, a74⟩, a75, a76, a77, a78⟩ := blk4 K65.out
  obtain ⟨⟨a79, a80, a81, a82⟩, a83, a84, a85, a86⟩ := blk4 K66.out
  go_wp2_with fail
  clear a71 a72 a73 a74 a75 a76 a77 a78 a79 a80 a81 a82 a83 a84 a85 a86
  refine (same_any A30 c31 A62 c63 bef _ R69.out R64.out hbl).mono ?_
  rintro e v87 ⟨rfl, hbv87⟩
  have K88 := Lib.hid (blk_call K65.out hbv87)
  have K89 := Lib.hid (blk_call K66.out hbv87)
  have D90 := Lib.hid (D67.out.step hbv87)
  have D91 := Lib.hid (D68.out.step hbv87)
  have R92 := Lib.hid (R69.out.step hbv87)
  have R93 := Lib.hid (R64.out.step hbv87)
  have B94 := Lib.hid (B70.out.trans (hbv87.mono B70.out.size))
  clear hbv87
  obtain ⟨⟨a95, a96, a97, a98⟩, a99, a100, a101, a102⟩ := blk4 K88.out
  obtain ⟨⟨a103, a104, a105, a106⟩, a107, a108, a109, a110⟩ := blk4 K89.out
  go_wp2_with fail
  clear a95 a96 a97 a98 a99 a100 a101 a102 a103 a104 a105 a106 a107 a108 a109 a110
  refine (HK.out A45 c46 A47 c48 _ D91.out).mono ?_
  rintro e v111 ⟨rfl, hbv111⟩
  have K112 := Lib.hid (blk_call K88.out hbv111)
  have K113 := Lib.hid (blk_call K89.out hbv111)
  have D114 := Lib.hid (D90.out.step hbv111)
  have D115 := Lib.hid (D91.out.step hbv111)
  have R116 := Lib.hid (R92.out.step hbv111)
  have R117 := Lib.hid (R93.out.step hbv111)
  have B118 := Lib.hid (B94.out.trans (hbv111.mono B94.out.size))
  clear hbv111
  obtain ⟨⟨a119, a120, a121, a122⟩, a123, a124, a125, a126⟩ := blk4 K112.out
  obtain ⟨⟨a127, a128, a129, a130⟩, a131, a132, a133, a134⟩ := blk4 K113.out
  go_wp2_with fail
  clear a119 a120 a121 a122 a123 a124 a125 a126 a127 a128 a129 a130 a131 a132 a133 a134
  refine (HO.out A45 c46 A47 c48 _ D115.out).mono ?_
  rintro e v135 ⟨A136, c137, A138, c139, he, hd, hbv135⟩
  unfold dv dcells at he
  subst he
  have K141 := Lib.hid (blk_call K112.out hbv135)
  have K142 := Lib.hid (blk_call K113.out hbv135)
  have D143 := Lib.hid (D114.out.step hbv135)
  have D144 := Lib.hid (D115.out.step hbv135)
  have R145 := Lib.hid (R116.out.step hbv135)
  have R146 := Lib.hid (R117.out.step hbv135)
  have B147 := Lib.hid (B118.out.trans (hbv135.mono B118.out.size))
  have D140 := Lib.hid hd
  clear hd hbv135
  go_wp2_with fail
  obtain ⟨X148, hX148⟩ : ∃ X, X = v135.alloc (.cells #[.slice A136 off.secs.length c137, .slice A138 off.pend.length c139, .int .i64 off.left, .bool off.down] 25) := ⟨_, rfl⟩
  have bX148 : Below v135.heap.size v135 X148 := by rw [hX148]; exact (Below.refl _ _).alloc (Nat.le_refl _) _
  have K149 := Lib.hid (blk_call K141.out bX148)
  have K150 := Lib.hid (blk_call K142.out bX148)
  have D151 := Lib.hid (D143.out.step bX148)
  have D152 := Lib.hid (D144.out.step bX148)
  have D153 := Lib.hid (D140.out.step bX148)
  have R154 := Lib.hid (R145.out.step bX148)
  have R155 := Lib.hid (R146.out.step bX148)
  have B156 := Lib.hid (B147.out.trans (bX148.mono B147.out.size))
  have K157 := Lib.hid (show X148.heap[v135.heap.size]? = some (.cells #[.slice A136 off.secs.length c137, .slice A138 off.pend.length c139, .int .i64 off.left, .bool off.down] 25 (0, 0)) by rw [hX148]; exact blk_new _ _)
  rw [← hX148]
  clear hX148
  refine (HN.out A136 c137 A138 c139 _ D153.out).mono ?_
  rintro e v158 ⟨A159, c160, A161, c162, he, hd, hbv158⟩
  unfold dv dcells at he
  subst he
  have K164 := Lib.hid (blk_call K149.out hbv158)
  have K165 := Lib.hid (blk_call K150.out hbv158)
  have K166 := Lib.hid (blk_call K157.out hbv158)
  have D167 := Lib.hid (D151.out.step hbv158)
  have D168 := Lib.hid (D152.out.step hbv158)
  have D169 := Lib.hid (D153.out.step hbv158)
  have R170 := Lib.hid (R154.out.step hbv158)
  have R171 := Lib.hid (R155.out.step hbv158)
  have B172 := Lib.hid (B156.out.trans (hbv158.mono B156.out.size))
  have D163 := Lib.hid hd
  clear hd hbv158
  go_wp2_with fail
  obtain ⟨X173, hX173⟩ : ∃ X, X = v158.alloc (.cells #[.slice A159 on.secs.length c160, .slice A161 on.pend.length c162, .int .i64 on.left, .bool on.down] 25) := ⟨_, rfl⟩
  have bX173 : Below v158.heap.size v158 X173 := by rw [hX173]; exact (Below.refl _ _).alloc (Nat.le_refl _) _
  have K174 := Lib.hid (blk_call K164.out bX173)
  have K175 := Lib.hid (blk_call K165.out bX173)
  have K176 := Lib.hid (blk_call K166.out bX173)
  have D177 := Lib.hid (D167.out.step bX173)
  have D178 := Lib.hid (D168.out.step bX173)
  have D179 := Lib.hid (D169.out.step bX173)
  have D180 := Lib.hid (D163.out.step bX173)
  have R181 := Lib.hid (R170.out.step bX173)
  have R182 := Lib.hid (R171.out.step bX173)
  have B183 := Lib.hid (B172.out.trans (bX173.mono B172.out.size))
  have K184 := Lib.hid (show X173.heap[v158.heap.size]? = some (.cells #[.slice A159 on.secs.length c160, .slice A161 on.pend.length c162, .int .i64 on.left, .bool on.down] 25 (0, 0)) by rw [hX173]; exact blk_new _ _)
  rw [← hX173]
  clear hX173
  refine (HC3.out A159 c160 A161 c162 _ D180.out).mono ?_
  rintro e v185 ⟨A186, c187, rfl, hd, hbv185⟩
  have K189 := Lib.hid (blk_call K174.out hbv185)
  have K190 := Lib.hid (blk_call K175.out hbv185)
  have K191 := Lib.hid (blk_call K176.out hbv185)
  have K192 := Lib.hid (blk_call K184.out hbv185)
  have D193 := Lib.hid (D177.out.step hbv185)
  have D194 := Lib.hid (D178.out.step hbv185)
  have D195 := Lib.hid (D179.out.step hbv185)
  have D196 := Lib.hid (D180.out.step hbv185)
  have R197 := Lib.hid (R181.out.step hbv185)
  have R198 := Lib.hid (R182.out.step hbv185)
  have B199 := Lib.hid (B183.out.trans (hbv185.mono B183.out.size))
  have R188 := Lib.hid hd
  clear hd hbv185
  obtain ⟨⟨a200, a201, a202, a203⟩, a204, a205, a206, a207⟩ := blk4 K189.out
  go_wp2_with fail
  clear a200 a201 a202 a203 a204 a205 a206 a207
  refine (HL.out A c A' c' _ D193.out).mono ?_
  rintro e v208 ⟨A209, c210, A211, c212, he, hd, hbv208⟩
  unfold dv dcells at he
  subst he
  have K214 := Lib.hid (blk_call K189.out hbv208)
  have K215 := Lib.hid (blk_call K190.out hbv208)
  have K216 := Lib.hid (blk_call K191.out hbv208)
  have K217 := Lib.hid (blk_call K192.out hbv208)
  have D218 := Lib.hid (D193.out.step hbv208)
  have D219 := Lib.hid (D194.out.step hbv208)
  have D220 := Lib.hid (D195.out.step hbv208)
  have D221 := Lib.hid (D196.out.step hbv208)
  have R222 := Lib.hid (R197.out.step hbv208)
  have R223 := Lib.hid (R198.out.step hbv208)
  have R224 := Lib.hid (R188.out.step hbv208)
  have B225 := Lib.hid (B199.out.trans (hbv208.mono B199.out.size))
  have D213 := Lib.hid hd
  clear hd hbv208
  go_wp2_with fail
  obtain ⟨X226, hX226⟩ : ∃ X, X = v208.alloc (.cells #[.slice A209 lost.secs.length c210, .slice A211 lost.pend.length c212, .int .i64 lost.left, .bool lost.down] 25) := ⟨_, rfl⟩
  have bX226 : Below v208.heap.size v208 X226 := by rw [hX226]; exact (Below.refl _ _).alloc (Nat.le_refl _) _
  have K227 := Lib.hid (blk_call K214.out bX226)
  have K228 := Lib.hid (blk_call K215.out bX226)
  have K229 := Lib.hid (blk_call K216.out bX226)
  have K230 := Lib.hid (blk_call K217.out bX226)
  have D231 := Lib.hid (D218.out.step bX226)
  have D232 := Lib.hid (D219.out.step bX226)
  have D233 := Lib.hid (D220.out.step bX226)
  have D234 := Lib.hid (D221.out.step bX226)
  have D235 := Lib.hid (D213.out.step bX226)
  have R236 := Lib.hid (R222.out.step bX226)
  have R237 := Lib.hid (R223.out.step bX226)
  have R238 := Lib.hid (R224.out.step bX226)
  have B239 := Lib.hid (B225.out.trans (bX226.mono B225.out.size))
  have K240 := Lib.hid (show X226.heap[v208.heap.size]? = some (.cells #[.slice A209 lost.secs.length c210, .slice A211 lost.pend.length c212, .int .i64 lost.left, .bool lost.down] 25 (0, 0)) by rw [hX226]; exact blk_new _ _)
  rw [← hX226]
  clear hX226
  refine (HB.out A209 c210 A211 c212 _ D235.out).mono ?_
  rintro e v241 ⟨A242, c243, A244, c245, he, hd, hbv241⟩
  unfold dv dcells at he
  subst he
  have K247 := Lib.hid (blk_call K227.out hbv241)
  have K248 := Lib.hid (blk_call K228.out hbv241)
  have K249 := Lib.hid (blk_call K229.out hbv241)
  have K250 := Lib.hid (blk_call K230.out hbv241)
  have K251 := Lib.hid (blk_call K240.out hbv241)
  have D252 := Lib.hid (D231.out.step hbv241)
  have D253 := Lib.hid (D232.out.step hbv241)
  have D254 := Lib.hid (D233.out.step hbv241)
  have D255 := Lib.hid (D234.out.step hbv241)
  have D256 := Lib.hid (D235.out.step hbv241)
  have R257 := Lib.hid (R236.out.step hbv241)
  have R258 := Lib.hid (R237.out.step hbv241)
  have R259 := Lib.hid (R238.out.step hbv241)
  have B260 := Lib.hid (B239.out.trans (hbv241.mono B239.out.size))
  have D246 := Lib.hid hd
  clear hd hbv241
  go_wp2_with fail
  obtain ⟨X261, hX261⟩ : ∃ X, X = v241.alloc (.cells #[.slice A242 back.secs.length c243, .slice A244 back.pend.length c245, .int .i64 back.left, .bool back.down] 25) := ⟨_, rfl⟩
  have bX261 : Below v241.heap.size v241 X261 := by rw [hX261]; exact (Below.refl _ _).alloc (Nat.le_refl _) _
  have K262 := Lib.hid (blk_call K247.out bX261)
  have K263 := Lib.hid (blk_call K248.out bX261)
  have K264 := Lib.hid (blk_call K249.out bX261)
  have K265 := Lib.hid (blk_call K250.out bX261)
  have K266 := Lib.hid (blk_call K251.out bX261)
  have D267 := Lib.hid (D252.out.step bX261)
  have D268 := Lib.hid (D253.out.step bX261)
  have D269 := Lib.hid (D254.out.step bX261)
  have D270 := Lib.hid (D255.out.step bX261)
  have D271 := Lib.hid (D256.out.step bX261)
  have D272 := Lib.hid (D246.out.step bX261)
  have R273 := Lib.hid (R257.out.step bX261)
  have R274 := Lib.hid (R258.out.step bX261)
  have R275 := Lib.hid (R259.out.step bX261)
  have B276 := Lib.hid (B260.out.trans (bX261.mono B260.out.size))
  have K277 := Lib.hid (show X261.heap[v241.heap.size]? = some (.cells #[.slice A242 back.secs.length c243, .slice A244 back.pend.length c245, .int .i64 back.left, .bool back.down] 25 (0, 0)) by rw [hX261]; exact blk_new _ _)
  rw [← hX261]
  clear hX261
  refine (HC4.out A242 c243 A244 c245 _ D272.out).mono ?_
  rintro e v278 ⟨A279, c280, rfl, hd, hbv278⟩
  have K282 := Lib.hid (blk_call K262.out hbv278)
  have K283 := Lib.hid (blk_call K263.out hbv278)
  have K284 := Lib.hid (blk_call K264.out hbv278)
  have K285 := Lib.hid (blk_call K265.out hbv278)
  have K286 := Lib.hid (blk_call K266.out hbv278)
  have K287 := Lib.hid (blk_call K277.out hbv278)
  have D288 := Lib.hid (D267.out.step hbv278)
  have D289 := Lib.hid (D268.out.step hbv278)
  have D290 := Lib.hid (D269.out.step hbv278)
  have D291 := Lib.hid (D270.out.step hbv278)
  have D292 := Lib.hid (D271.out.step hbv278)
  have D293 := Lib.hid (D272.out.step hbv278)
  have R294 := Lib.hid (R273.out.step hbv278)
  have R295 := Lib.hid (R274.out.step hbv278)
  have R296 := Lib.hid (R275.out.step hbv278)
  have B297 := Lib.hid (B276.out.trans (hbv278.mono B276.out.size))
  have R281 := Lib.hid hd
  clear hd hbv278
  obtain ⟨⟨a298, a299, a300, a301⟩, a302, a303, a304, a305⟩ := blk4 K282.out
  go_wp2_with fail
  clear a298 a299 a300 a301 a302 a303 a304 a305
  refine (same_any A186 c187 A30 c31 bef _ R296.out R294.out hbl).mono ?_
  rintro e v306 ⟨rfl, hbv306⟩
  have K307 := Lib.hid (blk_call K282.out hbv306)
  have K308 := Lib.hid (blk_call K283.out hbv306)
  have K309 := Lib.hid (blk_call K284.out hbv306)
  have K310 := Lib.hid (blk_call K285.out hbv306)
  have K311 := Lib.hid (blk_call K286.out hbv306)
  have K312 := Lib.hid (blk_call K287.out hbv306)
  have D313 := Lib.hid (D288.out.step hbv306)
  have D314 := Lib.hid (D289.out.step hbv306)
  have D315 := Lib.hid (D290.out.step hbv306)
  have D316 := Lib.hid (D291.out.step hbv306)
  have D317 := Lib.hid (D292.out.step hbv306)
  have D318 := Lib.hid (D293.out.step hbv306)
  have R319 := Lib.hid (R294.out.step hbv306)
  have R320 := Lib.hid (R295.out.step hbv306)
  have R321 := Lib.hid (R296.out.step hbv306)
  have R322 := Lib.hid (R281.out.step hbv306)
  have B323 := Lib.hid (B297.out.trans (hbv306.mono B297.out.size))
  clear hbv306
  obtain ⟨⟨a324, a325, a326, a327⟩, a328, a329, a330, a331⟩ := blk4 K307.out
  go_wp2_with fail
  have HSEC := Lib.hid (D313.out.secs)
  clear a324 a325 a326 a327 a328 a329 a330 a331
  refine (same_any A279 c280 A c d.secs _ R322.out HSEC.out hsl).mono ?_
  rintro e v332 ⟨rfl, hbv332⟩
  have K333 := Lib.hid (blk_call K307.out hbv332)
  have K334 := Lib.hid (blk_call K308.out hbv332)
  have K335 := Lib.hid (blk_call K309.out hbv332)
  have K336 := Lib.hid (blk_call K310.out hbv332)
  have K337 := Lib.hid (blk_call K311.out hbv332)
  have K338 := Lib.hid (blk_call K312.out hbv332)
  have D339 := Lib.hid (D313.out.step hbv332)
  have D340 := Lib.hid (D314.out.step hbv332)
  have D341 := Lib.hid (D315.out.step hbv332)
  have D342 := Lib.hid (D316.out.step hbv332)
  have D343 := Lib.hid (D317.out.step hbv332)
  have D344 := Lib.hid (D318.out.step hbv332)
  have R345 := Lib.hid (R319.out.step hbv332)
  have R346 := Lib.hid (R320.out.step hbv332)
  have R347 := Lib.hid (R321.out.step hbv332)
  have R348 := Lib.hid (R322.out.step hbv332)
  have R349 := Lib.hid (HSEC.out.step hbv332)
  have B350 := Lib.hid (B323.out.trans (hbv332.mono B323.out.size))
  clear hbv332
  go_wp2_with fail
  go_ret
  exact ⟨rfl, B350.out⟩

end Go.Proofs.Ytlfiooenbgegkaa
