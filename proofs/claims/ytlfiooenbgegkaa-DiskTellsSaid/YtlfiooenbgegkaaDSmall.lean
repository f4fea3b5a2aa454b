/- The walk of small, the examples. -/
import Derived.Test.YtlfiooenbgegkaaDm
namespace Go.Proofs.Ytlfiooenbgegkaa
open Go.RowKit Ds
set_option linter.unusedSimpArgs false
set_option linter.unusedVariables false

set_option maxRecDepth 100000 in
set_option maxHeartbeats 16000000 in
theorem small_core (a b c d off on b2 c2 d2 on2 z : Dk) (os : List ByteArray) (op : List Wr) (ol : Int) (w : World)
    (HNew : Hid (∀ w, Calls Try.prog 10 #[.int .i64 2] w (DiskEnd w a 0)))
    (H1 : Hid (CallD 17 a [.int .i64 0, .string ⟨#[97, 98]⟩] b 0))
    (H2 : Hid (CallD 19 b [] c 0))
    (H3 : Hid (CallD 17 c [.int .i64 0, .string ⟨#[120]⟩] d 0))
    (H4 : Hid (CallD 23 d [] off 0))
    (H5 : Hid (CallD 25 off [] on 0))
    (H6 : Hid (CallV 15 on [.int .i64 0] (.tuple #[.string ⟨#[97, 98, 0, 0, 0, 0, 0, 0, 0, 0, 0, 0, 0, 0, 0, 0]⟩, .int .i64 0])))
    (H7 : Hid (CallD 17 a [.int .i64 0, .string ⟨#[48, 49, 50, 51, 52, 53, 54, 55, 56, 57]⟩] b2 0))
    (H8 : Hid (CallD 17 b2 [.int .i64 1, .string ⟨#[121]⟩] c2 0))
    (H9 : Hid (CallD 21 c2 [.int .i64 0] d2 0))
    (H10 : Hid (CallD 19 d2 [] ⟨os, op, ol, true⟩ 8))
    (H11 : Hid (CallD 25 ⟨os, op, ol, true⟩ [] on2 0))
    (H12 : Hid (CallV 15 on2 [.int .i64 0] (.tuple #[.string ⟨#[48, 49, 50, 51, 52, 53, 54, 55, 0, 0, 0, 0, 0, 0, 0, 0]⟩, .int .i64 0])))
    (H13 : Hid (CallV 15 on2 [.int .i64 1] (.tuple #[.string ⟨#[0, 0, 0, 0, 0, 0, 0, 0, 0, 0, 0, 0, 0, 0, 0, 0]⟩, .int .i64 0])))
    (H14 : Hid (CallV 15 ⟨os, op, ol, true⟩ [.int .i64 0] (.tuple #[.string ⟨#[]⟩, .int .i64 8])))
    (H15 : Hid (CallD 25 on2 [] z 7))
    (H16 : Hid (CallV 13 ⟨os, op, ol, true⟩ [] (.int .i64 0))) (H17 : Hid (CallV 13 nilD [] (.int .i64 1)))
    : Calls Try.prog 8 #[] w fun e w' => e = .returned (.bool true) ∧ Below w.heap.size w w' := by
  have B0 := Lib.hid (Below.refl w.heap.size w)
  go_enter Try.func8, Try.ntmps8
  go_wp2_with fail
  refine (HNew.out w).mono ?_
  rintro e v1 ⟨A2, c3, A4, c5, he, hd, hbv1⟩
  unfold dv dcells at he
  subst he
  have B7 := Lib.hid (B0.out.trans (hbv1.mono B0.out.size))
  have D6 := Lib.hid hd
  clear hd hbv1
  go_wp2_with fail
  have l9 := B7.out.size
  obtain ⟨X8, hX8⟩ : ∃ X, X = v1.alloc (.cells #[.slice A2 a.secs.length c3, .slice A4 a.pend.length c5, .int .i64 a.left, .bool a.down] 25) := ⟨_, rfl⟩
  have bX8 : Below v1.heap.size v1 X8 := by rw [hX8]; exact (Below.refl _ _).alloc (Nat.le_refl _) _
  have D10 := Lib.hid (D6.out.step bX8)
  have B11 := Lib.hid (B7.out.trans (bX8.mono B7.out.size))
  have K12 := Lib.hid (show X8.heap[v1.heap.size]? = some (.cells #[.slice A2 a.secs.length c3, .slice A4 a.pend.length c5, .int .i64 a.left, .bool a.down] 25 (0, 0)) by rw [hX8]; exact blk_new _ _)
  rw [← hX8]
  clear hX8
  refine (H1.out A2 c3 A4 c5 _ D10.out).mono ?_
  rintro e v13 ⟨A14, c15, A16, c17, he, hd, hbv13⟩
  unfold dv dcells at he
  subst he
  have K19 := Lib.hid (blk_call K12.out hbv13)
  have D20 := Lib.hid (D10.out.step hbv13)
  have B21 := Lib.hid (B11.out.trans (hbv13.mono B11.out.size))
  have D18 := Lib.hid hd
  clear hd hbv13
  go_wp2_with fail
  have l23 := blk_lt K19.out
  have l24 := B21.out.size
  obtain ⟨X22, hX22⟩ : ∃ X, X = v13.alloc (.cells #[.slice A14 b.secs.length c15, .slice A16 b.pend.length c17, .int .i64 b.left, .bool b.down] 25) := ⟨_, rfl⟩
  have bX22 : Below v13.heap.size v13 X22 := by rw [hX22]; exact (Below.refl _ _).alloc (Nat.le_refl _) _
  have K25 := Lib.hid (blk_call K19.out bX22)
  have D26 := Lib.hid (D20.out.step bX22)
  have D27 := Lib.hid (D18.out.step bX22)
  have B28 := Lib.hid (B21.out.trans (bX22.mono B21.out.size))
  have K29 := Lib.hid (show X22.heap[v13.heap.size]? = some (.cells #[.slice A14 b.secs.length c15, .slice A16 b.pend.length c17, .int .i64 b.left, .bool b.down] 25 (0, 0)) by rw [hX22]; exact blk_new _ _)
  rw [← hX22]
  clear hX22
  refine (H2.out A14 c15 A16 c17 _ D27.out).mono ?_
  rintro e v30 ⟨A31, c32, A33, c34, he, hd, hbv30⟩
  unfold dv dcells at he
  subst he
  have K36 := Lib.hid (blk_call K25.out hbv30)
  have K37 := Lib.hid (blk_call K29.out hbv30)
  have D38 := Lib.hid (D26.out.step hbv30)
  have D39 := Lib.hid (D27.out.step hbv30)
  have B40 := Lib.hid (B28.out.trans (hbv30.mono B28.out.size))
  have D35 := Lib.hid hd
  clear hd hbv30
  go_wp2_with fail
  have l42 := blk_lt K36.out
  have l43 := blk_lt K37.out
  have l44 := B40.out.size
  obtain ⟨X41, hX41⟩ : ∃ X, X = v30.alloc (.cells #[.slice A31 c.secs.length c32, .slice A33 c.pend.length c34, .int .i64 c.left, .bool c.down] 25) := ⟨_, rfl⟩
  have bX41 : Below v30.heap.size v30 X41 := by rw [hX41]; exact (Below.refl _ _).alloc (Nat.le_refl _) _
  have K45 := Lib.hid (blk_call K36.out bX41)
  have K46 := Lib.hid (blk_call K37.out bX41)
  have D47 := Lib.hid (D38.out.step bX41)
  have D48 := Lib.hid (D39.out.step bX41)
  have D49 := Lib.hid (D35.out.step bX41)
  have B50 := Lib.hid (B40.out.trans (bX41.mono B40.out.size))
  have K51 := Lib.hid (show X41.heap[v30.heap.size]? = some (.cells #[.slice A31 c.secs.length c32, .slice A33 c.pend.length c34, .int .i64 c.left, .bool c.down] 25 (0, 0)) by rw [hX41]; exact blk_new _ _)
  rw [← hX41]
  clear hX41
  refine (H3.out A31 c32 A33 c34 _ D49.out).mono ?_
  rintro e v52 ⟨A53, c54, A55, c56, he, hd, hbv52⟩
  unfold dv dcells at he
  subst he
  have K58 := Lib.hid (blk_call K45.out hbv52)
  have K59 := Lib.hid (blk_call K46.out hbv52)
  have K60 := Lib.hid (blk_call K51.out hbv52)
  have D61 := Lib.hid (D47.out.step hbv52)
  have D62 := Lib.hid (D48.out.step hbv52)
  have D63 := Lib.hid (D49.out.step hbv52)
  have B64 := Lib.hid (B50.out.trans (hbv52.mono B50.out.size))
  have D57 := Lib.hid hd
  clear hd hbv52
  go_wp2_with fail
  have l66 := blk_lt K58.out
  have l67 := blk_lt K59.out
  have l68 := blk_lt K60.out
  have l69 := B64.out.size
  obtain ⟨X65, hX65⟩ : ∃ X, X = v52.alloc (.cells #[.slice A53 d.secs.length c54, .slice A55 d.pend.length c56, .int .i64 d.left, .bool d.down] 25) := ⟨_, rfl⟩
  have bX65 : Below v52.heap.size v52 X65 := by rw [hX65]; exact (Below.refl _ _).alloc (Nat.le_refl _) _
  have K70 := Lib.hid (blk_call K58.out bX65)
  have K71 := Lib.hid (blk_call K59.out bX65)
  have K72 := Lib.hid (blk_call K60.out bX65)
  have D73 := Lib.hid (D61.out.step bX65)
  have D74 := Lib.hid (D62.out.step bX65)
  have D75 := Lib.hid (D63.out.step bX65)
  have D76 := Lib.hid (D57.out.step bX65)
  have B77 := Lib.hid (B64.out.trans (bX65.mono B64.out.size))
  have K78 := Lib.hid (show X65.heap[v52.heap.size]? = some (.cells #[.slice A53 d.secs.length c54, .slice A55 d.pend.length c56, .int .i64 d.left, .bool d.down] 25 (0, 0)) by rw [hX65]; exact blk_new _ _)
  rw [← hX65]
  clear hX65
  refine (H4.out A53 c54 A55 c56 _ D76.out).mono ?_
  rintro e v79 ⟨A80, c81, A82, c83, he, hd, hbv79⟩
  unfold dv dcells at he
  subst he
  have K85 := Lib.hid (blk_call K70.out hbv79)
  have K86 := Lib.hid (blk_call K71.out hbv79)
  have K87 := Lib.hid (blk_call K72.out hbv79)
  have K88 := Lib.hid (blk_call K78.out hbv79)
  have D89 := Lib.hid (D73.out.step hbv79)
  have D90 := Lib.hid (D74.out.step hbv79)
  have D91 := Lib.hid (D75.out.step hbv79)
  have D92 := Lib.hid (D76.out.step hbv79)
  have B93 := Lib.hid (B77.out.trans (hbv79.mono B77.out.size))
  have D84 := Lib.hid hd
  clear hd hbv79
  go_wp2_with fail
  have l95 := blk_lt K85.out
  have l96 := blk_lt K86.out
  have l97 := blk_lt K87.out
  have l98 := blk_lt K88.out
  have l99 := B93.out.size
  obtain ⟨X94, hX94⟩ : ∃ X, X = v79.alloc (.cells #[.slice A80 off.secs.length c81, .slice A82 off.pend.length c83, .int .i64 off.left, .bool off.down] 25) := ⟨_, rfl⟩
  have bX94 : Below v79.heap.size v79 X94 := by rw [hX94]; exact (Below.refl _ _).alloc (Nat.le_refl _) _
  have K100 := Lib.hid (blk_call K85.out bX94)
  have K101 := Lib.hid (blk_call K86.out bX94)
  have K102 := Lib.hid (blk_call K87.out bX94)
  have K103 := Lib.hid (blk_call K88.out bX94)
  have D104 := Lib.hid (D89.out.step bX94)
  have D105 := Lib.hid (D90.out.step bX94)
  have D106 := Lib.hid (D91.out.step bX94)
  have D107 := Lib.hid (D92.out.step bX94)
  have D108 := Lib.hid (D84.out.step bX94)
  have B109 := Lib.hid (B93.out.trans (bX94.mono B93.out.size))
  have K110 := Lib.hid (show X94.heap[v79.heap.size]? = some (.cells #[.slice A80 off.secs.length c81, .slice A82 off.pend.length c83, .int .i64 off.left, .bool off.down] 25 (0, 0)) by rw [hX94]; exact blk_new _ _)
  rw [← hX94]
  clear hX94
  refine (H5.out A80 c81 A82 c83 _ D108.out).mono ?_
  rintro e v111 ⟨A112, c113, A114, c115, he, hd, hbv111⟩
  unfold dv dcells at he
  subst he
  have K117 := Lib.hid (blk_call K100.out hbv111)
  have K118 := Lib.hid (blk_call K101.out hbv111)
  have K119 := Lib.hid (blk_call K102.out hbv111)
  have K120 := Lib.hid (blk_call K103.out hbv111)
  have K121 := Lib.hid (blk_call K110.out hbv111)
  have D122 := Lib.hid (D104.out.step hbv111)
  have D123 := Lib.hid (D105.out.step hbv111)
  have D124 := Lib.hid (D106.out.step hbv111)
  have D125 := Lib.hid (D107.out.step hbv111)
  have D126 := Lib.hid (D108.out.step hbv111)
  have B127 := Lib.hid (B109.out.trans (hbv111.mono B109.out.size))
  have D116 := Lib.hid hd
  clear hd hbv111
  go_wp2_with fail
  have l129 := blk_lt K117.out
  have l130 := blk_lt K118.out
  have l131 := blk_lt K119.out
  have l132 := blk_lt K120.out
  have l133 := blk_lt K121.out
  have l134 := B127.out.size
  obtain ⟨X128, hX128⟩ : ∃ X, X = v111.alloc (.cells #[.slice A112 on.secs.length c113, .slice A114 on.pend.length c115, .int .i64 on.left, .bool on.down] 25) := ⟨_, rfl⟩
  have bX128 : Below v111.heap.size v111 X128 := by rw [hX128]; exact (Below.refl _ _).alloc (Nat.le_refl _) _
  have K135 := Lib.hid (blk_call K117.out bX128)
  have K136 := Lib.hid (blk_call K118.out bX128)
  have K137 := Lib.hid (blk_call K119.out bX128)
  have K138 := Lib.hid (blk_call K120.out bX128)
  have K139 := Lib.hid (blk_call K121.out bX128)
  have D140 := Lib.hid (D122.out.step bX128)
  have D141 := Lib.hid (D123.out.step bX128)
  have D142 := Lib.hid (D124.out.step bX128)
  have D143 := Lib.hid (D125.out.step bX128)
  have D144 := Lib.hid (D126.out.step bX128)
  have D145 := Lib.hid (D116.out.step bX128)
  have B146 := Lib.hid (B127.out.trans (bX128.mono B127.out.size))
  have K147 := Lib.hid (show X128.heap[v111.heap.size]? = some (.cells #[.slice A112 on.secs.length c113, .slice A114 on.pend.length c115, .int .i64 on.left, .bool on.down] 25 (0, 0)) by rw [hX128]; exact blk_new _ _)
  rw [← hX128]
  clear hX128
  refine (H6.out A112 c113 A114 c115 _ D145.out).mono ?_
  rintro e v148 ⟨rfl, hbv148⟩
  have K149 := Lib.hid (blk_call K135.out hbv148)
  have K150 := Lib.hid (blk_call K136.out hbv148)
  have K151 := Lib.hid (blk_call K137.out hbv148)
  have K152 := Lib.hid (blk_call K138.out hbv148)
  have K153 := Lib.hid (blk_call K139.out hbv148)
  have K154 := Lib.hid (blk_call K147.out hbv148)
  have D155 := Lib.hid (D140.out.step hbv148)
  have D156 := Lib.hid (D141.out.step hbv148)
  have D157 := Lib.hid (D142.out.step hbv148)
  have D158 := Lib.hid (D143.out.step hbv148)
  have D159 := Lib.hid (D144.out.step hbv148)
  have D160 := Lib.hid (D145.out.step hbv148)
  have B161 := Lib.hid (B146.out.trans (hbv148.mono B146.out.size))
  clear hbv148
  obtain ⟨⟨a162, a163, a164, a165⟩, a166, a167, a168, a169⟩ := blk4 K149.out
  go_wp2_with fail
  clear a162 a163 a164 a165 a166 a167 a168 a169
  refine (H7.out A2 c3 A4 c5 _ D155.out).mono ?_
  rintro e v170 ⟨A171, c172, A173, c174, he, hd, hbv170⟩
  unfold dv dcells at he
  subst he
  have K176 := Lib.hid (blk_call K149.out hbv170)
  have K177 := Lib.hid (blk_call K150.out hbv170)
  have K178 := Lib.hid (blk_call K151.out hbv170)
  have K179 := Lib.hid (blk_call K152.out hbv170)
  have K180 := Lib.hid (blk_call K153.out hbv170)
  have K181 := Lib.hid (blk_call K154.out hbv170)
  have D182 := Lib.hid (D155.out.step hbv170)
  have D183 := Lib.hid (D156.out.step hbv170)
  have D184 := Lib.hid (D157.out.step hbv170)
  have D185 := Lib.hid (D158.out.step hbv170)
  have D186 := Lib.hid (D159.out.step hbv170)
  have D187 := Lib.hid (D160.out.step hbv170)
  have B188 := Lib.hid (B161.out.trans (hbv170.mono B161.out.size))
  have D175 := Lib.hid hd
  clear hd hbv170
  obtain ⟨⟨a189, a190, a191, a192⟩, a193, a194, a195, a196⟩ := blk4 K177.out
  go_upto_region 11 with fail
  clear a189 a190 a191 a192 a193 a194 a195 a196
  obtain ⟨X197, hX197⟩ : ∃ X, X = ((((v170.setCell ⟨v13.heap.size, 0, none⟩ (.slice A171 b2.secs.length c172)).setCell ⟨v13.heap.size, 1, none⟩ (.slice A173 b2.pend.length c174)).setCell ⟨v13.heap.size, 2, none⟩ (.int .i64 b2.left)).setCell ⟨v13.heap.size, 3, none⟩ (.bool b2.down)) := ⟨_, rfl⟩
  have K198 := Lib.hid (show X197.heap[v1.heap.size]? = some (.cells #[.slice A2 a.secs.length c3, .slice A4 a.pend.length c5, .int .i64 a.left, .bool a.down] 25 (0, 0)) by rw [hX197]; exact blk_other (blk_other (blk_other (blk_other K176.out (by simp only; omega)) (by simp only; omega)) (by simp only; omega)) (by simp only; omega))
  have K199 := Lib.hid (show X197.heap[v13.heap.size]? = some (.cells #[.slice A171 b2.secs.length c172, .slice A173 b2.pend.length c174, .int .i64 b2.left, .bool b2.down] 25 (0, 0)) by rw [hX197]; exact set4 K177.out)
  have K200 := Lib.hid (show X197.heap[v30.heap.size]? = some (.cells #[.slice A31 c.secs.length c32, .slice A33 c.pend.length c34, .int .i64 c.left, .bool c.down] 25 (0, 0)) by rw [hX197]; exact blk_other (blk_other (blk_other (blk_other K178.out (by simp only; omega)) (by simp only; omega)) (by simp only; omega)) (by simp only; omega))
  have K201 := Lib.hid (show X197.heap[v52.heap.size]? = some (.cells #[.slice A53 d.secs.length c54, .slice A55 d.pend.length c56, .int .i64 d.left, .bool d.down] 25 (0, 0)) by rw [hX197]; exact blk_other (blk_other (blk_other (blk_other K179.out (by simp only; omega)) (by simp only; omega)) (by simp only; omega)) (by simp only; omega))
  have K202 := Lib.hid (show X197.heap[v79.heap.size]? = some (.cells #[.slice A80 off.secs.length c81, .slice A82 off.pend.length c83, .int .i64 off.left, .bool off.down] 25 (0, 0)) by rw [hX197]; exact blk_other (blk_other (blk_other (blk_other K180.out (by simp only; omega)) (by simp only; omega)) (by simp only; omega)) (by simp only; omega))
  have K203 := Lib.hid (show X197.heap[v111.heap.size]? = some (.cells #[.slice A112 on.secs.length c113, .slice A114 on.pend.length c115, .int .i64 on.left, .bool on.down] 25 (0, 0)) by rw [hX197]; exact blk_other (blk_other (blk_other (blk_other K181.out (by simp only; omega)) (by simp only; omega)) (by simp only; omega)) (by simp only; omega))
  have D204 := Lib.hid (show DiskAt X197 X197.heap.size A2 c3 A4 c5 a by rw [hX197]; exact disk_set4 K177.out D182.out)
  have D205 := Lib.hid (show DiskAt X197 X197.heap.size A14 c15 A16 c17 b by rw [hX197]; exact disk_set4 K177.out D183.out)
  have D206 := Lib.hid (show DiskAt X197 X197.heap.size A31 c32 A33 c34 c by rw [hX197]; exact disk_set4 K177.out D184.out)
  have D207 := Lib.hid (show DiskAt X197 X197.heap.size A53 c54 A55 c56 d by rw [hX197]; exact disk_set4 K177.out D185.out)
  have D208 := Lib.hid (show DiskAt X197 X197.heap.size A80 c81 A82 c83 off by rw [hX197]; exact disk_set4 K177.out D186.out)
  have D209 := Lib.hid (show DiskAt X197 X197.heap.size A112 c113 A114 c115 on by rw [hX197]; exact disk_set4 K177.out D187.out)
  have D210 := Lib.hid (show DiskAt X197 X197.heap.size A171 c172 A173 c174 b2 by rw [hX197]; exact disk_set4 K177.out D175.out)
  have B211 := Lib.hid (show Below w.heap.size w X197 by rw [hX197]; exact (((B188.out.setCell (by simp only; omega) _).setCell (by simp only; omega) _).setCell (by simp only; omega) _).setCell (by simp only; omega) _)
  rw [← hX197]
  clear hX197
  obtain ⟨⟨a212, a213, a214, a215⟩, a216, a217, a218, a219⟩ := blk4 K199.out
  go_wp2_with fail
  clear a212 a213 a214 a215 a216 a217 a218 a219
  refine (H8.out A171 c172 A173 c174 _ D210.out).mono ?_
  rintro e v220 ⟨A221, c222, A223, c224, he, hd, hbv220⟩
  unfold dv dcells at he
  subst he
  have K226 := Lib.hid (blk_call K198.out hbv220)
  have K227 := Lib.hid (blk_call K199.out hbv220)
  have K228 := Lib.hid (blk_call K200.out hbv220)
  have K229 := Lib.hid (blk_call K201.out hbv220)
  have K230 := Lib.hid (blk_call K202.out hbv220)
  have K231 := Lib.hid (blk_call K203.out hbv220)
  have D232 := Lib.hid (D204.out.step hbv220)
  have D233 := Lib.hid (D205.out.step hbv220)
  have D234 := Lib.hid (D206.out.step hbv220)
  have D235 := Lib.hid (D207.out.step hbv220)
  have D236 := Lib.hid (D208.out.step hbv220)
  have D237 := Lib.hid (D209.out.step hbv220)
  have D238 := Lib.hid (D210.out.step hbv220)
  have B239 := Lib.hid (B211.out.trans (hbv220.mono B211.out.size))
  have D225 := Lib.hid hd
  clear hd hbv220
  obtain ⟨⟨a240, a241, a242, a243⟩, a244, a245, a246, a247⟩ := blk4 K228.out
  go_upto_region 12 with fail
  clear a240 a241 a242 a243 a244 a245 a246 a247
  obtain ⟨X248, hX248⟩ : ∃ X, X = ((((v220.setCell ⟨v30.heap.size, 0, none⟩ (.slice A221 c2.secs.length c222)).setCell ⟨v30.heap.size, 1, none⟩ (.slice A223 c2.pend.length c224)).setCell ⟨v30.heap.size, 2, none⟩ (.int .i64 c2.left)).setCell ⟨v30.heap.size, 3, none⟩ (.bool c2.down)) := ⟨_, rfl⟩
  have K249 := Lib.hid (show X248.heap[v1.heap.size]? = some (.cells #[.slice A2 a.secs.length c3, .slice A4 a.pend.length c5, .int .i64 a.left, .bool a.down] 25 (0, 0)) by rw [hX248]; exact blk_other (blk_other (blk_other (blk_other K226.out (by simp only; omega)) (by simp only; omega)) (by simp only; omega)) (by simp only; omega))
  have K250 := Lib.hid (show X248.heap[v13.heap.size]? = some (.cells #[.slice A171 b2.secs.length c172, .slice A173 b2.pend.length c174, .int .i64 b2.left, .bool b2.down] 25 (0, 0)) by rw [hX248]; exact blk_other (blk_other (blk_other (blk_other K227.out (by simp only; omega)) (by simp only; omega)) (by simp only; omega)) (by simp only; omega))
  have K251 := Lib.hid (show X248.heap[v30.heap.size]? = some (.cells #[.slice A221 c2.secs.length c222, .slice A223 c2.pend.length c224, .int .i64 c2.left, .bool c2.down] 25 (0, 0)) by rw [hX248]; exact set4 K228.out)
  have K252 := Lib.hid (show X248.heap[v52.heap.size]? = some (.cells #[.slice A53 d.secs.length c54, .slice A55 d.pend.length c56, .int .i64 d.left, .bool d.down] 25 (0, 0)) by rw [hX248]; exact blk_other (blk_other (blk_other (blk_other K229.out (by simp only; omega)) (by simp only; omega)) (by simp only; omega)) (by simp only; omega))
  have K253 := Lib.hid (show X248.heap[v79.heap.size]? = some (.cells #[.slice A80 off.secs.length c81, .slice A82 off.pend.length c83, .int .i64 off.left, .bool off.down] 25 (0, 0)) by rw [hX248]; exact blk_other (blk_other (blk_other (blk_other K230.out (by simp only; omega)) (by simp only; omega)) (by simp only; omega)) (by simp only; omega))
  have K254 := Lib.hid (show X248.heap[v111.heap.size]? = some (.cells #[.slice A112 on.secs.length c113, .slice A114 on.pend.length c115, .int .i64 on.left, .bool on.down] 25 (0, 0)) by rw [hX248]; exact blk_other (blk_other (blk_other (blk_other K231.out (by simp only; omega)) (by simp only; omega)) (by simp only; omega)) (by simp only; omega))
  have D255 := Lib.hid (show DiskAt X248 X248.heap.size A2 c3 A4 c5 a by rw [hX248]; exact disk_set4 K228.out D232.out)
  have D256 := Lib.hid (show DiskAt X248 X248.heap.size A14 c15 A16 c17 b by rw [hX248]; exact disk_set4 K228.out D233.out)
  have D257 := Lib.hid (show DiskAt X248 X248.heap.size A31 c32 A33 c34 c by rw [hX248]; exact disk_set4 K228.out D234.out)
  have D258 := Lib.hid (show DiskAt X248 X248.heap.size A53 c54 A55 c56 d by rw [hX248]; exact disk_set4 K228.out D235.out)
  have D259 := Lib.hid (show DiskAt X248 X248.heap.size A80 c81 A82 c83 off by rw [hX248]; exact disk_set4 K228.out D236.out)
  have D260 := Lib.hid (show DiskAt X248 X248.heap.size A112 c113 A114 c115 on by rw [hX248]; exact disk_set4 K228.out D237.out)
  have D261 := Lib.hid (show DiskAt X248 X248.heap.size A171 c172 A173 c174 b2 by rw [hX248]; exact disk_set4 K228.out D238.out)
  have D262 := Lib.hid (show DiskAt X248 X248.heap.size A221 c222 A223 c224 c2 by rw [hX248]; exact disk_set4 K228.out D225.out)
  have B263 := Lib.hid (show Below w.heap.size w X248 by rw [hX248]; exact (((B239.out.setCell (by simp only; omega) _).setCell (by simp only; omega) _).setCell (by simp only; omega) _).setCell (by simp only; omega) _)
  rw [← hX248]
  clear hX248
  obtain ⟨⟨a264, a265, a266, a267⟩, a268, a269, a270, a271⟩ := blk4 K251.out
  go_wp2_with fail
  clear a264 a265 a266 a267 a268 a269 a270 a271
  refine (H9.out A221 c222 A223 c224 _ D262.out).mono ?_
  rintro e v272 ⟨A273, c274, A275, c276, he, hd, hbv272⟩
  unfold dv dcells at he
  subst he
  have K278 := Lib.hid (blk_call K249.out hbv272)
  have K279 := Lib.hid (blk_call K250.out hbv272)
  have K280 := Lib.hid (blk_call K251.out hbv272)
  have K281 := Lib.hid (blk_call K252.out hbv272)
  have K282 := Lib.hid (blk_call K253.out hbv272)
  have K283 := Lib.hid (blk_call K254.out hbv272)
  have D284 := Lib.hid (D255.out.step hbv272)
  have D285 := Lib.hid (D256.out.step hbv272)
  have D286 := Lib.hid (D257.out.step hbv272)
  have D287 := Lib.hid (D258.out.step hbv272)
  have D288 := Lib.hid (D259.out.step hbv272)
  have D289 := Lib.hid (D260.out.step hbv272)
  have D290 := Lib.hid (D261.out.step hbv272)
  have D291 := Lib.hid (D262.out.step hbv272)
  have B292 := Lib.hid (B263.out.trans (hbv272.mono B263.out.size))
  have D277 := Lib.hid hd
  clear hd hbv272
  obtain ⟨⟨a293, a294, a295, a296⟩, a297, a298, a299, a300⟩ := blk4 K281.out
  go_upto_region 13 with fail
  clear a293 a294 a295 a296 a297 a298 a299 a300
  obtain ⟨X301, hX301⟩ : ∃ X, X = ((((v272.setCell ⟨v52.heap.size, 0, none⟩ (.slice A273 d2.secs.length c274)).setCell ⟨v52.heap.size, 1, none⟩ (.slice A275 d2.pend.length c276)).setCell ⟨v52.heap.size, 2, none⟩ (.int .i64 d2.left)).setCell ⟨v52.heap.size, 3, none⟩ (.bool d2.down)) := ⟨_, rfl⟩
  have K302 := Lib.hid (show X301.heap[v1.heap.size]? = some (.cells #[.slice A2 a.secs.length c3, .slice A4 a.pend.length c5, .int .i64 a.left, .bool a.down] 25 (0, 0)) by rw [hX301]; exact blk_other (blk_other (blk_other (blk_other K278.out (by simp only; omega)) (by simp only; omega)) (by simp only; omega)) (by simp only; omega))
  have K303 := Lib.hid (show X301.heap[v13.heap.size]? = some (.cells #[.slice A171 b2.secs.length c172, .slice A173 b2.pend.length c174, .int .i64 b2.left, .bool b2.down] 25 (0, 0)) by rw [hX301]; exact blk_other (blk_other (blk_other (blk_other K279.out (by simp only; omega)) (by simp only; omega)) (by simp only; omega)) (by simp only; omega))
  have K304 := Lib.hid (show X301.heap[v30.heap.size]? = some (.cells #[.slice A221 c2.secs.length c222, .slice A223 c2.pend.length c224, .int .i64 c2.left, .bool c2.down] 25 (0, 0)) by rw [hX301]; exact blk_other (blk_other (blk_other (blk_other K280.out (by simp only; omega)) (by simp only; omega)) (by simp only; omega)) (by simp only; omega))
  have K305 := Lib.hid (show X301.heap[v52.heap.size]? = some (.cells #[.slice A273 d2.secs.length c274, .slice A275 d2.pend.length c276, .int .i64 d2.left, .bool d2.down] 25 (0, 0)) by rw [hX301]; exact set4 K281.out)
  have K306 := Lib.hid (show X301.heap[v79.heap.size]? = some (.cells #[.slice A80 off.secs.length c81, .slice A82 off.pend.length c83, .int .i64 off.left, .bool off.down] 25 (0, 0)) by rw [hX301]; exact blk_other (blk_other (blk_other (blk_other K282.out (by simp only; omega)) (by simp only; omega)) (by simp only; omega)) (by simp only; omega))
  have K307 := Lib.hid (show X301.heap[v111.heap.size]? = some (.cells #[.slice A112 on.secs.length c113, .slice A114 on.pend.length c115, .int .i64 on.left, .bool on.down] 25 (0, 0)) by rw [hX301]; exact blk_other (blk_other (blk_other (blk_other K283.out (by simp only; omega)) (by simp only; omega)) (by simp only; omega)) (by simp only; omega))
  have D308 := Lib.hid (show DiskAt X301 X301.heap.size A2 c3 A4 c5 a by rw [hX301]; exact disk_set4 K281.out D284.out)
  have D309 := Lib.hid (show DiskAt X301 X301.heap.size A14 c15 A16 c17 b by rw [hX301]; exact disk_set4 K281.out D285.out)
  have D310 := Lib.hid (show DiskAt X301 X301.heap.size A31 c32 A33 c34 c by rw [hX301]; exact disk_set4 K281.out D286.out)
  have D311 := Lib.hid (show DiskAt X301 X301.heap.size A53 c54 A55 c56 d by rw [hX301]; exact disk_set4 K281.out D287.out)
  have D312 := Lib.hid (show DiskAt X301 X301.heap.size A80 c81 A82 c83 off by rw [hX301]; exact disk_set4 K281.out D288.out)
  have D313 := Lib.hid (show DiskAt X301 X301.heap.size A112 c113 A114 c115 on by rw [hX301]; exact disk_set4 K281.out D289.out)
  have D314 := Lib.hid (show DiskAt X301 X301.heap.size A171 c172 A173 c174 b2 by rw [hX301]; exact disk_set4 K281.out D290.out)
  have D315 := Lib.hid (show DiskAt X301 X301.heap.size A221 c222 A223 c224 c2 by rw [hX301]; exact disk_set4 K281.out D291.out)
  have D316 := Lib.hid (show DiskAt X301 X301.heap.size A273 c274 A275 c276 d2 by rw [hX301]; exact disk_set4 K281.out D277.out)
  have B317 := Lib.hid (show Below w.heap.size w X301 by rw [hX301]; exact (((B292.out.setCell (by simp only; omega) _).setCell (by simp only; omega) _).setCell (by simp only; omega) _).setCell (by simp only; omega) _)
  rw [← hX301]
  clear hX301
  obtain ⟨⟨a318, a319, a320, a321⟩, a322, a323, a324, a325⟩ := blk4 K305.out
  go_wp2_with fail
  clear a318 a319 a320 a321 a322 a323 a324 a325
  refine (H10.out A273 c274 A275 c276 _ D316.out).mono ?_
  rintro e v326 ⟨A327, c328, A329, c330, he, hd, hbv326⟩
  unfold dv dcells at he
  subst he
  have K332 := Lib.hid (blk_call K302.out hbv326)
  have K333 := Lib.hid (blk_call K303.out hbv326)
  have K334 := Lib.hid (blk_call K304.out hbv326)
  have K335 := Lib.hid (blk_call K305.out hbv326)
  have K336 := Lib.hid (blk_call K306.out hbv326)
  have K337 := Lib.hid (blk_call K307.out hbv326)
  have D338 := Lib.hid (D308.out.step hbv326)
  have D339 := Lib.hid (D309.out.step hbv326)
  have D340 := Lib.hid (D310.out.step hbv326)
  have D341 := Lib.hid (D311.out.step hbv326)
  have D342 := Lib.hid (D312.out.step hbv326)
  have D343 := Lib.hid (D313.out.step hbv326)
  have D344 := Lib.hid (D314.out.step hbv326)
  have D345 := Lib.hid (D315.out.step hbv326)
  have D346 := Lib.hid (D316.out.step hbv326)
  have B347 := Lib.hid (B317.out.trans (hbv326.mono B317.out.size))
  have D331 := Lib.hid hd
  clear hd hbv326
  obtain ⟨⟨a348, a349, a350, a351⟩, a352, a353, a354, a355⟩ := blk4 K336.out
  go_upto_region 14 with fail
  clear a348 a349 a350 a351 a352 a353 a354 a355
  obtain ⟨X356, hX356⟩ : ∃ X, X = ((((v326.setCell ⟨v79.heap.size, 0, none⟩ (.slice A327 os.length c328)).setCell ⟨v79.heap.size, 1, none⟩ (.slice A329 op.length c330)).setCell ⟨v79.heap.size, 2, none⟩ (.int .i64 ol)).setCell ⟨v79.heap.size, 3, none⟩ (.bool true)) := ⟨_, rfl⟩
  have K357 := Lib.hid (show X356.heap[v1.heap.size]? = some (.cells #[.slice A2 a.secs.length c3, .slice A4 a.pend.length c5, .int .i64 a.left, .bool a.down] 25 (0, 0)) by rw [hX356]; exact blk_other (blk_other (blk_other (blk_other K332.out (by simp only; omega)) (by simp only; omega)) (by simp only; omega)) (by simp only; omega))
  have K358 := Lib.hid (show X356.heap[v13.heap.size]? = some (.cells #[.slice A171 b2.secs.length c172, .slice A173 b2.pend.length c174, .int .i64 b2.left, .bool b2.down] 25 (0, 0)) by rw [hX356]; exact blk_other (blk_other (blk_other (blk_other K333.out (by simp only; omega)) (by simp only; omega)) (by simp only; omega)) (by simp only; omega))
  have K359 := Lib.hid (show X356.heap[v30.heap.size]? = some (.cells #[.slice A221 c2.secs.length c222, .slice A223 c2.pend.length c224, .int .i64 c2.left, .bool c2.down] 25 (0, 0)) by rw [hX356]; exact blk_other (blk_other (blk_other (blk_other K334.out (by simp only; omega)) (by simp only; omega)) (by simp only; omega)) (by simp only; omega))
  have K360 := Lib.hid (show X356.heap[v52.heap.size]? = some (.cells #[.slice A273 d2.secs.length c274, .slice A275 d2.pend.length c276, .int .i64 d2.left, .bool d2.down] 25 (0, 0)) by rw [hX356]; exact blk_other (blk_other (blk_other (blk_other K335.out (by simp only; omega)) (by simp only; omega)) (by simp only; omega)) (by simp only; omega))
  have K361 := Lib.hid (show X356.heap[v79.heap.size]? = some (.cells #[.slice A327 os.length c328, .slice A329 op.length c330, .int .i64 ol, .bool true] 25 (0, 0)) by rw [hX356]; exact set4 K336.out)
  have K362 := Lib.hid (show X356.heap[v111.heap.size]? = some (.cells #[.slice A112 on.secs.length c113, .slice A114 on.pend.length c115, .int .i64 on.left, .bool on.down] 25 (0, 0)) by rw [hX356]; exact blk_other (blk_other (blk_other (blk_other K337.out (by simp only; omega)) (by simp only; omega)) (by simp only; omega)) (by simp only; omega))
  have D363 := Lib.hid (show DiskAt X356 X356.heap.size A2 c3 A4 c5 a by rw [hX356]; exact disk_set4 K336.out D338.out)
  have D364 := Lib.hid (show DiskAt X356 X356.heap.size A14 c15 A16 c17 b by rw [hX356]; exact disk_set4 K336.out D339.out)
  have D365 := Lib.hid (show DiskAt X356 X356.heap.size A31 c32 A33 c34 c by rw [hX356]; exact disk_set4 K336.out D340.out)
  have D366 := Lib.hid (show DiskAt X356 X356.heap.size A53 c54 A55 c56 d by rw [hX356]; exact disk_set4 K336.out D341.out)
  have D367 := Lib.hid (show DiskAt X356 X356.heap.size A80 c81 A82 c83 off by rw [hX356]; exact disk_set4 K336.out D342.out)
  have D368 := Lib.hid (show DiskAt X356 X356.heap.size A112 c113 A114 c115 on by rw [hX356]; exact disk_set4 K336.out D343.out)
  have D369 := Lib.hid (show DiskAt X356 X356.heap.size A171 c172 A173 c174 b2 by rw [hX356]; exact disk_set4 K336.out D344.out)
  have D370 := Lib.hid (show DiskAt X356 X356.heap.size A221 c222 A223 c224 c2 by rw [hX356]; exact disk_set4 K336.out D345.out)
  have D371 := Lib.hid (show DiskAt X356 X356.heap.size A273 c274 A275 c276 d2 by rw [hX356]; exact disk_set4 K336.out D346.out)
  have D372 := Lib.hid (show DiskAt X356 X356.heap.size A327 c328 A329 c330 ⟨os, op, ol, true⟩ by rw [hX356]; exact disk_set4 K336.out D331.out)
  have B373 := Lib.hid (show Below w.heap.size w X356 by rw [hX356]; exact (((B347.out.setCell (by simp only; omega) _).setCell (by simp only; omega) _).setCell (by simp only; omega) _).setCell (by simp only; omega) _)
  rw [← hX356]
  clear hX356
  obtain ⟨⟨a374, a375, a376, a377⟩, a378, a379, a380, a381⟩ := blk4 K361.out
  go_wp2_with fail
  clear a374 a375 a376 a377 a378 a379 a380 a381
  refine (H11.out A327 c328 A329 c330 _ D372.out).mono ?_
  rintro e v382 ⟨A383, c384, A385, c386, he, hd, hbv382⟩
  unfold dv dcells at he
  subst he
  have K388 := Lib.hid (blk_call K357.out hbv382)
  have K389 := Lib.hid (blk_call K358.out hbv382)
  have K390 := Lib.hid (blk_call K359.out hbv382)
  have K391 := Lib.hid (blk_call K360.out hbv382)
  have K392 := Lib.hid (blk_call K361.out hbv382)
  have K393 := Lib.hid (blk_call K362.out hbv382)
  have D394 := Lib.hid (D363.out.step hbv382)
  have D395 := Lib.hid (D364.out.step hbv382)
  have D396 := Lib.hid (D365.out.step hbv382)
  have D397 := Lib.hid (D366.out.step hbv382)
  have D398 := Lib.hid (D367.out.step hbv382)
  have D399 := Lib.hid (D368.out.step hbv382)
  have D400 := Lib.hid (D369.out.step hbv382)
  have D401 := Lib.hid (D370.out.step hbv382)
  have D402 := Lib.hid (D371.out.step hbv382)
  have D403 := Lib.hid (D372.out.step hbv382)
  have B404 := Lib.hid (B373.out.trans (hbv382.mono B373.out.size))
  have D387 := Lib.hid hd
  clear hd hbv382
  obtain ⟨⟨a405, a406, a407, a408⟩, a409, a410, a411, a412⟩ := blk4 K393.out
  go_upto_region 15 with fail
  clear a405 a406 a407 a408 a409 a410 a411 a412
  obtain ⟨X413, hX413⟩ : ∃ X, X = ((((v382.setCell ⟨v111.heap.size, 0, none⟩ (.slice A383 on2.secs.length c384)).setCell ⟨v111.heap.size, 1, none⟩ (.slice A385 on2.pend.length c386)).setCell ⟨v111.heap.size, 2, none⟩ (.int .i64 on2.left)).setCell ⟨v111.heap.size, 3, none⟩ (.bool on2.down)) := ⟨_, rfl⟩
  have K414 := Lib.hid (show X413.heap[v1.heap.size]? = some (.cells #[.slice A2 a.secs.length c3, .slice A4 a.pend.length c5, .int .i64 a.left, .bool a.down] 25 (0, 0)) by rw [hX413]; exact blk_other (blk_other (blk_other (blk_other K388.out (by simp only; omega)) (by simp only; omega)) (by simp only; omega)) (by simp only; omega))
  have K415 := Lib.hid (show X413.heap[v13.heap.size]? = some (.cells #[.slice A171 b2.secs.length c172, .slice A173 b2.pend.length c174, .int .i64 b2.left, .bool b2.down] 25 (0, 0)) by rw [hX413]; exact blk_other (blk_other (blk_other (blk_other K389.out (by simp only; omega)) (by simp only; omega)) (by simp only; omega)) (by simp only; omega))
  have K416 := Lib.hid (show X413.heap[v30.heap.size]? = some (.cells #[.slice A221 c2.secs.length c222, .slice A223 c2.pend.length c224, .int .i64 c2.left, .bool c2.down] 25 (0, 0)) by rw [hX413]; exact blk_other (blk_other (blk_other (blk_other K390.out (by simp only; omega)) (by simp only; omega)) (by simp only; omega)) (by simp only; omega))
  have K417 := Lib.hid (show X413.heap[v52.heap.size]? = some (.cells #[.slice A273 d2.secs.length c274, .slice A275 d2.pend.length c276, .int .i64 d2.left, .bool d2.down] 25 (0, 0)) by rw [hX413]; exact blk_other (blk_other (blk_other (blk_other K391.out (by simp only; omega)) (by simp only; omega)) (by simp only; omega)) (by simp only; omega))
  have K418 := Lib.hid (show X413.heap[v79.heap.size]? = some (.cells #[.slice A327 os.length c328, .slice A329 op.length c330, .int .i64 ol, .bool true] 25 (0, 0)) by rw [hX413]; exact blk_other (blk_other (blk_other (blk_other K392.out (by simp only; omega)) (by simp only; omega)) (by simp only; omega)) (by simp only; omega))
  have K419 := Lib.hid (show X413.heap[v111.heap.size]? = some (.cells #[.slice A383 on2.secs.length c384, .slice A385 on2.pend.length c386, .int .i64 on2.left, .bool on2.down] 25 (0, 0)) by rw [hX413]; exact set4 K393.out)
  have D420 := Lib.hid (show DiskAt X413 X413.heap.size A2 c3 A4 c5 a by rw [hX413]; exact disk_set4 K393.out D394.out)
  have D421 := Lib.hid (show DiskAt X413 X413.heap.size A14 c15 A16 c17 b by rw [hX413]; exact disk_set4 K393.out D395.out)
  have D422 := Lib.hid (show DiskAt X413 X413.heap.size A31 c32 A33 c34 c by rw [hX413]; exact disk_set4 K393.out D396.out)
  have D423 := Lib.hid (show DiskAt X413 X413.heap.size A53 c54 A55 c56 d by rw [hX413]; exact disk_set4 K393.out D397.out)
  have D424 := Lib.hid (show DiskAt X413 X413.heap.size A80 c81 A82 c83 off by rw [hX413]; exact disk_set4 K393.out D398.out)
  have D425 := Lib.hid (show DiskAt X413 X413.heap.size A112 c113 A114 c115 on by rw [hX413]; exact disk_set4 K393.out D399.out)
  have D426 := Lib.hid (show DiskAt X413 X413.heap.size A171 c172 A173 c174 b2 by rw [hX413]; exact disk_set4 K393.out D400.out)
  have D427 := Lib.hid (show DiskAt X413 X413.heap.size A221 c222 A223 c224 c2 by rw [hX413]; exact disk_set4 K393.out D401.out)
  have D428 := Lib.hid (show DiskAt X413 X413.heap.size A273 c274 A275 c276 d2 by rw [hX413]; exact disk_set4 K393.out D402.out)
  have D429 := Lib.hid (show DiskAt X413 X413.heap.size A327 c328 A329 c330 ⟨os, op, ol, true⟩ by rw [hX413]; exact disk_set4 K393.out D403.out)
  have D430 := Lib.hid (show DiskAt X413 X413.heap.size A383 c384 A385 c386 on2 by rw [hX413]; exact disk_set4 K393.out D387.out)
  have B431 := Lib.hid (show Below w.heap.size w X413 by rw [hX413]; exact (((B404.out.setCell (by simp only; omega) _).setCell (by simp only; omega) _).setCell (by simp only; omega) _).setCell (by simp only; omega) _)
  rw [← hX413]
  clear hX413
  obtain ⟨⟨a432, a433, a434, a435⟩, a436, a437, a438, a439⟩ := blk4 K419.out
  go_wp2_with fail
  clear a432 a433 a434 a435 a436 a437 a438 a439
  refine (H12.out A383 c384 A385 c386 _ D430.out).mono ?_
  rintro e v440 ⟨rfl, hbv440⟩
  have K441 := Lib.hid (blk_call K414.out hbv440)
  have K442 := Lib.hid (blk_call K415.out hbv440)
  have K443 := Lib.hid (blk_call K416.out hbv440)
  have K444 := Lib.hid (blk_call K417.out hbv440)
  have K445 := Lib.hid (blk_call K418.out hbv440)
  have K446 := Lib.hid (blk_call K419.out hbv440)
  have D447 := Lib.hid (D420.out.step hbv440)
  have D448 := Lib.hid (D421.out.step hbv440)
  have D449 := Lib.hid (D422.out.step hbv440)
  have D450 := Lib.hid (D423.out.step hbv440)
  have D451 := Lib.hid (D424.out.step hbv440)
  have D452 := Lib.hid (D425.out.step hbv440)
  have D453 := Lib.hid (D426.out.step hbv440)
  have D454 := Lib.hid (D427.out.step hbv440)
  have D455 := Lib.hid (D428.out.step hbv440)
  have D456 := Lib.hid (D429.out.step hbv440)
  have D457 := Lib.hid (D430.out.step hbv440)
  have B458 := Lib.hid (B431.out.trans (hbv440.mono B431.out.size))
  clear hbv440
  obtain ⟨⟨a459, a460, a461, a462⟩, a463, a464, a465, a466⟩ := blk4 K446.out
  go_wp2_with fail
  clear a459 a460 a461 a462 a463 a464 a465 a466
  refine (H13.out A383 c384 A385 c386 _ D457.out).mono ?_
  rintro e v467 ⟨rfl, hbv467⟩
  have K468 := Lib.hid (blk_call K441.out hbv467)
  have K469 := Lib.hid (blk_call K442.out hbv467)
  have K470 := Lib.hid (blk_call K443.out hbv467)
  have K471 := Lib.hid (blk_call K444.out hbv467)
  have K472 := Lib.hid (blk_call K445.out hbv467)
  have K473 := Lib.hid (blk_call K446.out hbv467)
  have D474 := Lib.hid (D447.out.step hbv467)
  have D475 := Lib.hid (D448.out.step hbv467)
  have D476 := Lib.hid (D449.out.step hbv467)
  have D477 := Lib.hid (D450.out.step hbv467)
  have D478 := Lib.hid (D451.out.step hbv467)
  have D479 := Lib.hid (D452.out.step hbv467)
  have D480 := Lib.hid (D453.out.step hbv467)
  have D481 := Lib.hid (D454.out.step hbv467)
  have D482 := Lib.hid (D455.out.step hbv467)
  have D483 := Lib.hid (D456.out.step hbv467)
  have D484 := Lib.hid (D457.out.step hbv467)
  have B485 := Lib.hid (B458.out.trans (hbv467.mono B458.out.size))
  clear hbv467
  obtain ⟨⟨a486, a487, a488, a489⟩, a490, a491, a492, a493⟩ := blk4 K472.out
  go_wp2_with fail
  clear a486 a487 a488 a489 a490 a491 a492 a493
  refine (H14.out A327 c328 A329 c330 _ D483.out).mono ?_
  rintro e v494 ⟨rfl, hbv494⟩
  have K495 := Lib.hid (blk_call K468.out hbv494)
  have K496 := Lib.hid (blk_call K469.out hbv494)
  have K497 := Lib.hid (blk_call K470.out hbv494)
  have K498 := Lib.hid (blk_call K471.out hbv494)
  have K499 := Lib.hid (blk_call K472.out hbv494)
  have K500 := Lib.hid (blk_call K473.out hbv494)
  have D501 := Lib.hid (D474.out.step hbv494)
  have D502 := Lib.hid (D475.out.step hbv494)
  have D503 := Lib.hid (D476.out.step hbv494)
  have D504 := Lib.hid (D477.out.step hbv494)
  have D505 := Lib.hid (D478.out.step hbv494)
  have D506 := Lib.hid (D479.out.step hbv494)
  have D507 := Lib.hid (D480.out.step hbv494)
  have D508 := Lib.hid (D481.out.step hbv494)
  have D509 := Lib.hid (D482.out.step hbv494)
  have D510 := Lib.hid (D483.out.step hbv494)
  have D511 := Lib.hid (D484.out.step hbv494)
  have B512 := Lib.hid (B485.out.trans (hbv494.mono B485.out.size))
  clear hbv494
  obtain ⟨⟨a513, a514, a515, a516⟩, a517, a518, a519, a520⟩ := blk4 K500.out
  go_wp2_with fail
  clear a513 a514 a515 a516 a517 a518 a519 a520
  refine (H15.out A383 c384 A385 c386 _ D511.out).mono ?_
  rintro e v521 ⟨A522, c523, A524, c525, he, hd, hbv521⟩
  unfold dv dcells at he
  subst he
  have K527 := Lib.hid (blk_call K495.out hbv521)
  have K528 := Lib.hid (blk_call K496.out hbv521)
  have K529 := Lib.hid (blk_call K497.out hbv521)
  have K530 := Lib.hid (blk_call K498.out hbv521)
  have K531 := Lib.hid (blk_call K499.out hbv521)
  have K532 := Lib.hid (blk_call K500.out hbv521)
  have D533 := Lib.hid (D501.out.step hbv521)
  have D534 := Lib.hid (D502.out.step hbv521)
  have D535 := Lib.hid (D503.out.step hbv521)
  have D536 := Lib.hid (D504.out.step hbv521)
  have D537 := Lib.hid (D505.out.step hbv521)
  have D538 := Lib.hid (D506.out.step hbv521)
  have D539 := Lib.hid (D507.out.step hbv521)
  have D540 := Lib.hid (D508.out.step hbv521)
  have D541 := Lib.hid (D509.out.step hbv521)
  have D542 := Lib.hid (D510.out.step hbv521)
  have D543 := Lib.hid (D511.out.step hbv521)
  have B544 := Lib.hid (B512.out.trans (hbv521.mono B512.out.size))
  have D526 := Lib.hid hd
  clear hd hbv521
  go_upto_region 19 with fail
  have l546 := blk_lt K527.out
  have l547 := blk_lt K528.out
  have l548 := blk_lt K529.out
  have l549 := blk_lt K530.out
  have l550 := blk_lt K531.out
  have l551 := blk_lt K532.out
  have l552 := B544.out.size
  obtain ⟨X545, hX545⟩ : ∃ X, X = v521.alloc (.cells #[.slice A522 z.secs.length c523, .slice A524 z.pend.length c525, .int .i64 z.left, .bool z.down] 25) := ⟨_, rfl⟩
  have bX545 : Below v521.heap.size v521 X545 := by rw [hX545]; exact (Below.refl _ _).alloc (Nat.le_refl _) _
  have K553 := Lib.hid (blk_call K527.out bX545)
  have K554 := Lib.hid (blk_call K528.out bX545)
  have K555 := Lib.hid (blk_call K529.out bX545)
  have K556 := Lib.hid (blk_call K530.out bX545)
  have K557 := Lib.hid (blk_call K531.out bX545)
  have K558 := Lib.hid (blk_call K532.out bX545)
  have D559 := Lib.hid (D533.out.step bX545)
  have D560 := Lib.hid (D534.out.step bX545)
  have D561 := Lib.hid (D535.out.step bX545)
  have D562 := Lib.hid (D536.out.step bX545)
  have D563 := Lib.hid (D537.out.step bX545)
  have D564 := Lib.hid (D538.out.step bX545)
  have D565 := Lib.hid (D539.out.step bX545)
  have D566 := Lib.hid (D540.out.step bX545)
  have D567 := Lib.hid (D541.out.step bX545)
  have D568 := Lib.hid (D542.out.step bX545)
  have D569 := Lib.hid (D543.out.step bX545)
  have D570 := Lib.hid (D526.out.step bX545)
  have B571 := Lib.hid (B544.out.trans (bX545.mono B544.out.size))
  have K572 := Lib.hid (show X545.heap[v521.heap.size]? = some (.cells #[.slice A522 z.secs.length c523, .slice A524 z.pend.length c525, .int .i64 z.left, .bool z.down] 25 (0, 0)) by rw [hX545]; exact blk_new _ _)
  rw [← hX545]
  clear hX545
  obtain ⟨⟨a573, a574, a575, a576⟩, a577, a578, a579, a580⟩ := blk4 K557.out
  go_wp2_with fail
  clear a573 a574 a575 a576 a577 a578 a579 a580
  refine (H16.out A327 c328 A329 c330 _ D568.out).mono ?_
  rintro e v581 ⟨rfl, hbv581⟩
  have K582 := Lib.hid (blk_call K553.out hbv581)
  have K583 := Lib.hid (blk_call K554.out hbv581)
  have K584 := Lib.hid (blk_call K555.out hbv581)
  have K585 := Lib.hid (blk_call K556.out hbv581)
  have K586 := Lib.hid (blk_call K557.out hbv581)
  have K587 := Lib.hid (blk_call K558.out hbv581)
  have K588 := Lib.hid (blk_call K572.out hbv581)
  have D589 := Lib.hid (D559.out.step hbv581)
  have D590 := Lib.hid (D560.out.step hbv581)
  have D591 := Lib.hid (D561.out.step hbv581)
  have D592 := Lib.hid (D562.out.step hbv581)
  have D593 := Lib.hid (D563.out.step hbv581)
  have D594 := Lib.hid (D564.out.step hbv581)
  have D595 := Lib.hid (D565.out.step hbv581)
  have D596 := Lib.hid (D566.out.step hbv581)
  have D597 := Lib.hid (D567.out.step hbv581)
  have D598 := Lib.hid (D568.out.step hbv581)
  have D599 := Lib.hid (D569.out.step hbv581)
  have D600 := Lib.hid (D570.out.step hbv581)
  have B601 := Lib.hid (B571.out.trans (hbv581.mono B571.out.size))
  clear hbv581
  go_wp2_with fail
  refine (H17.out none 0 none 0 _ (DiskAt.nil _ _)).mono ?_
  rintro e v602 ⟨rfl, hbv602⟩
  have K603 := Lib.hid (blk_call K582.out hbv602)
  have K604 := Lib.hid (blk_call K583.out hbv602)
  have K605 := Lib.hid (blk_call K584.out hbv602)
  have K606 := Lib.hid (blk_call K585.out hbv602)
  have K607 := Lib.hid (blk_call K586.out hbv602)
  have K608 := Lib.hid (blk_call K587.out hbv602)
  have K609 := Lib.hid (blk_call K588.out hbv602)
  have D610 := Lib.hid (D589.out.step hbv602)
  have D611 := Lib.hid (D590.out.step hbv602)
  have D612 := Lib.hid (D591.out.step hbv602)
  have D613 := Lib.hid (D592.out.step hbv602)
  have D614 := Lib.hid (D593.out.step hbv602)
  have D615 := Lib.hid (D594.out.step hbv602)
  have D616 := Lib.hid (D595.out.step hbv602)
  have D617 := Lib.hid (D596.out.step hbv602)
  have D618 := Lib.hid (D597.out.step hbv602)
  have D619 := Lib.hid (D598.out.step hbv602)
  have D620 := Lib.hid (D599.out.step hbv602)
  have D621 := Lib.hid (D600.out.step hbv602)
  have B622 := Lib.hid (B601.out.trans (hbv602.mono B601.out.size))
  clear hbv602
  go_wp2_with fail
  go_ret
  exact ⟨rfl, B622.out⟩

end Go.Proofs.Ytlfiooenbgegkaa
