/- The walk of DiskTells. -/
import Derived.Test.YtlfiooenbgegkaaDt2
import Derived.Test.YtlfiooenbgegkaaDm
namespace Go.Proofs.Ytlfiooenbgegkaa
open Go.RowKit Ds
set_option linter.unusedSimpArgs false
set_option linter.unusedVariables false

theorem below_two {a b c : World} (h : Below a.heap.size a b) (k : Below b.heap.size b c) : Below a.heap.size a c := h.trans (k.mono h.size)
set_option maxRecDepth 100000 in
set_option maxHeartbeats 16000000 in
theorem tells_walk (d xNew xWrite xFlush xArm xCut xStart : Dk) (eNew eWrite eFlush eArm eCut eStart eRead eCheck : Int) (sRead : ByteArray) (A : Option Addr) (c : Nat) (A' : Option Addr) (c' : Nat) (n k : Int) (s : ByteArray) (w : World) (hd0 : DiskAt w w.heap.size A c A' c' d)
    (HS : Hid (∀ w, Calls Try.prog 8 #[] w fun e w' => e = .returned (.bool true) ∧ Below w.heap.size w w'))
    (HANew : Hid (∀ w, Calls Try.prog 10 #[.int .i64 n] w (DiskEnd w xNew eNew))) (HBNew : Hid (∀ w, Calls Try.prog 11 #[.int .i64 n] w (DiskEnd w xNew eNew)))
    (HACheck : Hid (CallV 13 d [] (.int .i64 eCheck))) (HBCheck : Hid (CallV 14 d [] (.int .i64 eCheck)))
    (HAWrite : Hid (CallD 17 d [.int .i64 k, .string s] xWrite eWrite)) (HBWrite : Hid (CallD 18 d [.int .i64 k, .string s] xWrite eWrite))
    (HAFlush : Hid (CallD 19 d [] xFlush eFlush)) (HBFlush : Hid (CallD 20 d [] xFlush eFlush))
    (HAArm : Hid (CallD 21 d [.int .i64 n] xArm eArm)) (HBArm : Hid (CallD 22 d [.int .i64 n] xArm eArm))
    (HACut : Hid (CallD 23 d [] xCut eCut)) (HBCut : Hid (CallD 24 d [] xCut eCut))
    (HAStart : Hid (CallD 25 d [] xStart eStart)) (HBStart : Hid (CallD 26 d [] xStart eStart))
    (HARead : Hid (CallV 15 d [.int .i64 k] (.tuple #[.string sRead, .int .i64 eRead]))) (HBRead : Hid (CallV 16 d [.int .i64 k] (.tuple #[.string sRead, .int .i64 eRead])))
    : Calls Try.prog 3 #[dv A c A' c' d, .int .i64 n, .int .i64 k, .string s] w fun e w' => e = .returned (.bool true) ∧ Below w.heap.size w w' := by
  have HD := Lib.hid hd0
  have B0 := Lib.hid (Below.refl w.heap.size w)
  clear hd0
  unfold dv dcells
  go_enter Try.func3, Try.ntmps3
  go_wp2_with fail
  obtain ⟨X1, hX1⟩ : ∃ X, X = w.alloc (.cells #[.slice A d.secs.length c, .slice A' d.pend.length c', .int .i64 d.left, .bool d.down] 25) := ⟨_, rfl⟩
  have bX1 : Below w.heap.size w X1 := by rw [hX1]; exact (Below.refl _ _).alloc (Nat.le_refl _) _
  have D2 := Lib.hid (HD.out.step bX1)
  have B3 := Lib.hid (B0.out.trans (bX1.mono B0.out.size))
  have K4 := Lib.hid (show X1.heap[w.heap.size]? = some (.cells #[.slice A d.secs.length c, .slice A' d.pend.length c', .int .i64 d.left, .bool d.down] 25 (0, 0)) by rw [hX1]; exact blk_new _ _)
  rw [← hX1]
  clear hX1
  refine (HS.out X1).mono ?_
  rintro e v5 ⟨rfl, hbv5⟩
  have K6 := Lib.hid (blk_call K4.out hbv5)
  have D7 := Lib.hid (D2.out.step hbv5)
  have B8 := Lib.hid (B3.out.trans (hbv5.mono B3.out.size))
  clear hbv5
  obtain ⟨⟨a9, a10, a11, a12⟩, a13, a14, a15, a16⟩ := blk4 K6.out
  go_wp2_with fail
  clear a9 a10 a11 a12 a13 a14 a15 a16
  refine (few_any A c A' c' d v5).mono ?_
  rintro e vf ⟨⟨bf, rfl⟩, hbf⟩
  have K17 := Lib.hid (blk_call K6.out hbf)
  have D18 := Lib.hid (D7.out.step hbf)
  have B19 := Lib.hid (B8.out.trans (hbf.mono B8.out.size))
  clear hbf
  cases bf
  · go_wp2_with fail
    go_ret
    exact ⟨rfl, B19.out⟩
  by_cases hs : 100 < s.size
  · go_wp2_with fail
    go_ret
    exact ⟨rfl, B19.out⟩
  go_wp2_with fail
  refine (HANew.out vf).mono ?_
  rintro e v20 ⟨A21, c22, A23, c24, he, hd, hbv20⟩
  unfold dv dcells at he
  subst he
  have K26 := Lib.hid (blk_call K17.out hbv20)
  have D27 := Lib.hid (D18.out.step hbv20)
  have B28 := Lib.hid (B19.out.trans (hbv20.mono B19.out.size))
  have D25 := Lib.hid hd
  clear hd hbv20
  have lt1 := blk_lt K26.out
  go_wp2_with fail
  obtain ⟨X29, hX29⟩ : ∃ X, X = v20.alloc (.cells #[.slice A21 xNew.secs.length c22, .slice A23 xNew.pend.length c24, .int .i64 xNew.left, .bool xNew.down] 25) := ⟨_, rfl⟩
  have bX29 : Below v20.heap.size v20 X29 := by rw [hX29]; exact (Below.refl _ _).alloc (Nat.le_refl _) _
  have K30 := Lib.hid (blk_call K26.out bX29)
  have D31 := Lib.hid (D27.out.step bX29)
  have D32 := Lib.hid (D25.out.step bX29)
  have B33 := Lib.hid (B28.out.trans (bX29.mono B28.out.size))
  have K34 := Lib.hid (show X29.heap[v20.heap.size]? = some (.cells #[.slice A21 xNew.secs.length c22, .slice A23 xNew.pend.length c24, .int .i64 xNew.left, .bool xNew.down] 25 (0, 0)) by rw [hX29]; exact blk_new _ _)
  rw [← hX29]
  clear hX29
  refine (HBNew.out X29).mono ?_
  rintro e v35 ⟨A36, c37, A38, c39, he, hd, hbv35⟩
  unfold dv dcells at he
  subst he
  have K41 := Lib.hid (blk_call K30.out hbv35)
  have K42 := Lib.hid (blk_call K34.out hbv35)
  have D43 := Lib.hid (D31.out.step hbv35)
  have D44 := Lib.hid (D32.out.step hbv35)
  have B45 := Lib.hid (B33.out.trans (hbv35.mono B33.out.size))
  have D40 := Lib.hid hd
  clear hd hbv35
  have lt2 := blk_lt K42.out
  obtain ⟨⟨a46, a47, a48, a49⟩, a50, a51, a52, a53⟩ := blk4 K41.out
  go_upto_region 6 with fail
  clear a46 a47 a48 a49 a50 a51 a52 a53
  have l55 := blk_lt K41.out
  have l56 := blk_lt K42.out
  have l57 := B45.out.size
  obtain ⟨X54, hX54⟩ : ∃ X, X = v35.alloc (.cells #[.slice A36 xNew.secs.length c37, .slice A38 xNew.pend.length c39, .int .i64 xNew.left, .bool xNew.down] 25) := ⟨_, rfl⟩
  have bX54 : Below v35.heap.size v35 X54 := by rw [hX54]; exact (Below.refl _ _).alloc (Nat.le_refl _) _
  have K58 := Lib.hid (blk_call K41.out bX54)
  have K59 := Lib.hid (blk_call K42.out bX54)
  have D60 := Lib.hid (D43.out.step bX54)
  have D61 := Lib.hid (D44.out.step bX54)
  have D62 := Lib.hid (D40.out.step bX54)
  have B63 := Lib.hid (B45.out.trans (bX54.mono B45.out.size))
  have K64 := Lib.hid (show X54.heap[v35.heap.size]? = some (.cells #[.slice A36 xNew.secs.length c37, .slice A38 xNew.pend.length c39, .int .i64 xNew.left, .bool xNew.down] 25 (0, 0)) by rw [hX54]; exact blk_new _ _)
  rw [← hX54]
  clear hX54
  have Kd := K58
  have Ka := K59
  have Kb := K64
  have Dd := D60
  have Da := D61
  have Db := D62
  have BB := B63
  clear B63 D60 D61 D62 K58 K59 K64
  have BX := Lib.hid (show Below X54.heap.size X54 X54 from Below.refl _ _)
  obtain ⟨⟨q0, q1, q2, q3⟩, p0, p1, p2, p3⟩ := blk4 (blk_call Kd.out BX.out); obtain ⟨⟨r0, r1, r2, r3⟩, u0, u1, u2, u3⟩ := blk4 (blk_call Ka.out BX.out); obtain ⟨⟨s0, s1, s2, s3⟩, v0, v1, v2, v3⟩ := blk4 (blk_call Kb.out BX.out)
  go_cut [51] (fun v wx => v = .bool false ∧ Below X54.heap.size X54 wx)
  case first =>
    have te : (eNew != eNew) = false := by simp
    have tc : (eCheck != eCheck) = false := by simp
    go_region_law (first
      | (go_simp; go_at_call 12; refine (rsame_any A21 c22 A23 c24 A36 c37 A38 c39 xNew _ (Da.out.step (by repeat first | exact BX.out | refine below_drewN ?_ _ | refine Below.drew ?_)) (Db.out.step (by repeat first | exact BX.out | refine below_drewN ?_ _ | refine Below.drew ?_))).mono ?_; rintro e wt ⟨rfl, bt⟩; have BX := Lib.hid (below_two (show Below X54.heap.size X54 _ from (by repeat first | exact BX.out | refine below_drewN ?_ _ | refine Below.drew ?_)) bt); obtain ⟨⟨q0, q1, q2, q3⟩, p0, p1, p2, p3⟩ := blk4 (blk_call Kd.out BX.out); obtain ⟨⟨r0, r1, r2, r3⟩, u0, u1, u2, u3⟩ := blk4 (blk_call Ka.out BX.out); obtain ⟨⟨s0, s1, s2, s3⟩, v0, v1, v2, v3⟩ := blk4 (blk_call Kb.out BX.out))
      | (go_simp; go_at_call 13; refine (HACheck.out A c A' c' _ (Dd.out.step (by repeat first | exact BX.out | refine below_drewN ?_ _ | refine Below.drew ?_))).mono ?_; rintro e wt ⟨rfl, bt⟩; have BX := Lib.hid (below_two (show Below X54.heap.size X54 _ from (by repeat first | exact BX.out | refine below_drewN ?_ _ | refine Below.drew ?_)) bt); obtain ⟨⟨q0, q1, q2, q3⟩, p0, p1, p2, p3⟩ := blk4 (blk_call Kd.out BX.out); obtain ⟨⟨r0, r1, r2, r3⟩, u0, u1, u2, u3⟩ := blk4 (blk_call Ka.out BX.out); obtain ⟨⟨s0, s1, s2, s3⟩, v0, v1, v2, v3⟩ := blk4 (blk_call Kb.out BX.out))
      | (go_simp; go_at_call 14; refine (HBCheck.out A c A' c' _ (Dd.out.step (by repeat first | exact BX.out | refine below_drewN ?_ _ | refine Below.drew ?_))).mono ?_; rintro e wt ⟨rfl, bt⟩; have BX := Lib.hid (below_two (show Below X54.heap.size X54 _ from (by repeat first | exact BX.out | refine below_drewN ?_ _ | refine Below.drew ?_)) bt); obtain ⟨⟨q0, q1, q2, q3⟩, p0, p1, p2, p3⟩ := blk4 (blk_call Kd.out BX.out); obtain ⟨⟨r0, r1, r2, r3⟩, u0, u1, u2, u3⟩ := blk4 (blk_call Ka.out BX.out); obtain ⟨⟨s0, s1, s2, s3⟩, v0, v1, v2, v3⟩ := blk4 (blk_call Kb.out BX.out)))
    all_goals
      go_wp2_with fail
      go_meet
      exact ⟨rfl, (by repeat first | exact BX.out | refine below_drewN ?_ _ | refine Below.drew ?_)⟩
  case rest =>
    obtain ⟨rfl, hbX⟩ := hcut
    clear q0 q1 q2 q3 p0 p1 p2 p3 r0 r1 r2 r3 u0 u1 u2 u3 s0 s1 s2 s3 v0 v1 v2 v3 BX
    have K65 := Lib.hid (blk_call Kd.out hbX)
    have K66 := Lib.hid (blk_call Ka.out hbX)
    have K67 := Lib.hid (blk_call Kb.out hbX)
    have D68 := Lib.hid (Dd.out.step hbX)
    have B69 := Lib.hid (BB.out.trans (hbX.mono BB.out.size))
    obtain ⟨⟨a70, a71, a72, a73⟩, a74, a75, a76, a77⟩ := blk4 K65.out
    go_wp2_with fail
    clear a70 a71 a72 a73 a74 a75 a76 a77
    refine (HARead.out A c A' c' _ D68.out).mono ?_
    rintro e v78 ⟨rfl, hbv78⟩
    have K79 := Lib.hid (blk_call K65.out hbv78)
    have K80 := Lib.hid (blk_call K66.out hbv78)
    have K81 := Lib.hid (blk_call K67.out hbv78)
    have D82 := Lib.hid (D68.out.step hbv78)
    have B83 := Lib.hid (B69.out.trans (hbv78.mono B69.out.size))
    clear hbv78
    obtain ⟨⟨a84, a85, a86, a87⟩, a88, a89, a90, a91⟩ := blk4 K79.out
    go_wp2_with fail
    clear a84 a85 a86 a87 a88 a89 a90 a91
    refine (HBRead.out A c A' c' _ D82.out).mono ?_
    rintro e v92 ⟨rfl, hbv92⟩
    have K93 := Lib.hid (blk_call K79.out hbv92)
    have K94 := Lib.hid (blk_call K80.out hbv92)
    have K95 := Lib.hid (blk_call K81.out hbv92)
    have D96 := Lib.hid (D82.out.step hbv92)
    have B97 := Lib.hid (B83.out.trans (hbv92.mono B83.out.size))
    clear hbv92
    have tq : (eRead != eRead) = false := by simp
    obtain ⟨⟨a98, a99, a100, a101⟩, a102, a103, a104, a105⟩ := blk4 K93.out
    go_wp2_with fail
    clear a98 a99 a100 a101 a102 a103 a104 a105
    refine (HAWrite.out A c A' c' _ D96.out).mono ?_
    rintro e v106 ⟨A107, c108, A109, c110, he, hd, hbv106⟩
    unfold dv dcells at he
    subst he
    have K112 := Lib.hid (blk_call K93.out hbv106)
    have K113 := Lib.hid (blk_call K94.out hbv106)
    have K114 := Lib.hid (blk_call K95.out hbv106)
    have D115 := Lib.hid (D96.out.step hbv106)
    have B116 := Lib.hid (B97.out.trans (hbv106.mono B97.out.size))
    have D111 := Lib.hid hd
    clear hd hbv106
    obtain ⟨⟨a117, a118, a119, a120⟩, a121, a122, a123, a124⟩ := blk4 K113.out
    have l125 := blk_lt K112.out
    have l126 := blk_lt K113.out
    have l127 := blk_lt K114.out
    go_upto_region 13 with fail
    clear a117 a118 a119 a120 a121 a122 a123 a124
    obtain ⟨X128, hX128⟩ : ∃ X, X = ((((v106.setCell ⟨v20.heap.size, 0, none⟩ (.slice A107 xWrite.secs.length c108)).setCell ⟨v20.heap.size, 1, none⟩ (.slice A109 xWrite.pend.length c110)).setCell ⟨v20.heap.size, 2, none⟩ (.int .i64 xWrite.left)).setCell ⟨v20.heap.size, 3, none⟩ (.bool xWrite.down)) := ⟨_, rfl⟩
    have K129 := Lib.hid (show X128.heap[w.heap.size]? = some (.cells #[.slice A d.secs.length c, .slice A' d.pend.length c', .int .i64 d.left, .bool d.down] 25 (0, 0)) by rw [hX128]; exact blk_other (blk_other (blk_other (blk_other K112.out (by simp only; omega)) (by simp only; omega)) (by simp only; omega)) (by simp only; omega))
    have K130 := Lib.hid (show X128.heap[v20.heap.size]? = some (.cells #[.slice A107 xWrite.secs.length c108, .slice A109 xWrite.pend.length c110, .int .i64 xWrite.left, .bool xWrite.down] 25 (0, 0)) by rw [hX128]; exact set4 K113.out)
    have K131 := Lib.hid (show X128.heap[v35.heap.size]? = some (.cells #[.slice A36 xNew.secs.length c37, .slice A38 xNew.pend.length c39, .int .i64 xNew.left, .bool xNew.down] 25 (0, 0)) by rw [hX128]; exact blk_other (blk_other (blk_other (blk_other K114.out (by simp only; omega)) (by simp only; omega)) (by simp only; omega)) (by simp only; omega))
    have D132 := Lib.hid (show DiskAt X128 X128.heap.size A c A' c' d by rw [hX128]; exact disk_set4 K113.out D115.out)
    have D133 := Lib.hid (show DiskAt X128 X128.heap.size A107 c108 A109 c110 xWrite by rw [hX128]; exact disk_set4 K113.out D111.out)
    have B134 := Lib.hid (show Below w.heap.size w X128 by rw [hX128]; exact (((B116.out.setCell (by simp only; omega) _).setCell (by simp only; omega) _).setCell (by simp only; omega) _).setCell (by simp only; omega) _)
    rw [← hX128]
    clear hX128
    obtain ⟨⟨a135, a136, a137, a138⟩, a139, a140, a141, a142⟩ := blk4 K129.out
    go_wp2_with fail
    clear a135 a136 a137 a138 a139 a140 a141 a142
    refine (HBWrite.out A c A' c' _ D132.out).mono ?_
    rintro e v143 ⟨A144, c145, A146, c147, he, hd, hbv143⟩
    unfold dv dcells at he
    subst he
    have K149 := Lib.hid (blk_call K129.out hbv143)
    have K150 := Lib.hid (blk_call K130.out hbv143)
    have K151 := Lib.hid (blk_call K131.out hbv143)
    have D152 := Lib.hid (D132.out.step hbv143)
    have D153 := Lib.hid (D133.out.step hbv143)
    have B154 := Lib.hid (B134.out.trans (hbv143.mono B134.out.size))
    have D148 := Lib.hid hd
    clear hd hbv143
    obtain ⟨⟨a155, a156, a157, a158⟩, a159, a160, a161, a162⟩ := blk4 K151.out
    have l163 := blk_lt K149.out
    have l164 := blk_lt K150.out
    have l165 := blk_lt K151.out
    go_upto_region 14 with fail
    clear a155 a156 a157 a158 a159 a160 a161 a162
    obtain ⟨X166, hX166⟩ : ∃ X, X = ((((v143.setCell ⟨v35.heap.size, 0, none⟩ (.slice A144 xWrite.secs.length c145)).setCell ⟨v35.heap.size, 1, none⟩ (.slice A146 xWrite.pend.length c147)).setCell ⟨v35.heap.size, 2, none⟩ (.int .i64 xWrite.left)).setCell ⟨v35.heap.size, 3, none⟩ (.bool xWrite.down)) := ⟨_, rfl⟩
    have K167 := Lib.hid (show X166.heap[w.heap.size]? = some (.cells #[.slice A d.secs.length c, .slice A' d.pend.length c', .int .i64 d.left, .bool d.down] 25 (0, 0)) by rw [hX166]; exact blk_other (blk_other (blk_other (blk_other K149.out (by simp only; omega)) (by simp only; omega)) (by simp only; omega)) (by simp only; omega))
    have K168 := Lib.hid (show X166.heap[v20.heap.size]? = some (.cells #[.slice A107 xWrite.secs.length c108, .slice A109 xWrite.pend.length c110, .int .i64 xWrite.left, .bool xWrite.down] 25 (0, 0)) by rw [hX166]; exact blk_other (blk_other (blk_other (blk_other K150.out (by simp only; omega)) (by simp only; omega)) (by simp only; omega)) (by simp only; omega))
    have K169 := Lib.hid (show X166.heap[v35.heap.size]? = some (.cells #[.slice A144 xWrite.secs.length c145, .slice A146 xWrite.pend.length c147, .int .i64 xWrite.left, .bool xWrite.down] 25 (0, 0)) by rw [hX166]; exact set4 K151.out)
    have D170 := Lib.hid (show DiskAt X166 X166.heap.size A c A' c' d by rw [hX166]; exact disk_set4 K151.out D152.out)
    have D171 := Lib.hid (show DiskAt X166 X166.heap.size A107 c108 A109 c110 xWrite by rw [hX166]; exact disk_set4 K151.out D153.out)
    have D172 := Lib.hid (show DiskAt X166 X166.heap.size A144 c145 A146 c147 xWrite by rw [hX166]; exact disk_set4 K151.out D148.out)
    have B173 := Lib.hid (show Below w.heap.size w X166 by rw [hX166]; exact (((B154.out.setCell (by simp only; omega) _).setCell (by simp only; omega) _).setCell (by simp only; omega) _).setCell (by simp only; omega) _)
    rw [← hX166]
    clear hX166
    obtain ⟨⟨a174, a175, a176, a177⟩, a178, a179, a180, a181⟩ := blk4 K168.out
    obtain ⟨⟨a182, a183, a184, a185⟩, a186, a187, a188, a189⟩ := blk4 K169.out
    go_wp2_with fail
    clear a174 a175 a176 a177 a178 a179 a180 a181 a182 a183 a184 a185 a186 a187 a188 a189
    refine (rsame_any A107 c108 A109 c110 A144 c145 A146 c147 xWrite _ D171.out D172.out).mono ?_
    rintro e v190 ⟨rfl, hbv190⟩
    have K191 := Lib.hid (blk_call K167.out hbv190)
    have K192 := Lib.hid (blk_call K168.out hbv190)
    have K193 := Lib.hid (blk_call K169.out hbv190)
    have D194 := Lib.hid (D170.out.step hbv190)
    have D195 := Lib.hid (D171.out.step hbv190)
    have D196 := Lib.hid (D172.out.step hbv190)
    have B197 := Lib.hid (B173.out.trans (hbv190.mono B173.out.size))
    clear hbv190
    have teWrite : (eWrite != eWrite) = false := by simp
    have tfWrite : (eWrite == eWrite) = true := by simp
    obtain ⟨⟨a198, a199, a200, a201⟩, a202, a203, a204, a205⟩ := blk4 K191.out
    go_wp2_with fail
    clear a198 a199 a200 a201 a202 a203 a204 a205
    refine (HAFlush.out A c A' c' _ D194.out).mono ?_
    rintro e v206 ⟨A207, c208, A209, c210, he, hd, hbv206⟩
    unfold dv dcells at he
    subst he
    have K212 := Lib.hid (blk_call K191.out hbv206)
    have K213 := Lib.hid (blk_call K192.out hbv206)
    have K214 := Lib.hid (blk_call K193.out hbv206)
    have D215 := Lib.hid (D194.out.step hbv206)
    have B216 := Lib.hid (B197.out.trans (hbv206.mono B197.out.size))
    have D211 := Lib.hid hd
    clear hd hbv206
    obtain ⟨⟨a217, a218, a219, a220⟩, a221, a222, a223, a224⟩ := blk4 K213.out
    have l225 := blk_lt K212.out
    have l226 := blk_lt K213.out
    have l227 := blk_lt K214.out
    go_upto_region 17 with fail
    clear a217 a218 a219 a220 a221 a222 a223 a224
    obtain ⟨X228, hX228⟩ : ∃ X, X = ((((v206.setCell ⟨v20.heap.size, 0, none⟩ (.slice A207 xFlush.secs.length c208)).setCell ⟨v20.heap.size, 1, none⟩ (.slice A209 xFlush.pend.length c210)).setCell ⟨v20.heap.size, 2, none⟩ (.int .i64 xFlush.left)).setCell ⟨v20.heap.size, 3, none⟩ (.bool xFlush.down)) := ⟨_, rfl⟩
    have K229 := Lib.hid (show X228.heap[w.heap.size]? = some (.cells #[.slice A d.secs.length c, .slice A' d.pend.length c', .int .i64 d.left, .bool d.down] 25 (0, 0)) by rw [hX228]; exact blk_other (blk_other (blk_other (blk_other K212.out (by simp only; omega)) (by simp only; omega)) (by simp only; omega)) (by simp only; omega))
    have K230 := Lib.hid (show X228.heap[v20.heap.size]? = some (.cells #[.slice A207 xFlush.secs.length c208, .slice A209 xFlush.pend.length c210, .int .i64 xFlush.left, .bool xFlush.down] 25 (0, 0)) by rw [hX228]; exact set4 K213.out)
    have K231 := Lib.hid (show X228.heap[v35.heap.size]? = some (.cells #[.slice A144 xWrite.secs.length c145, .slice A146 xWrite.pend.length c147, .int .i64 xWrite.left, .bool xWrite.down] 25 (0, 0)) by rw [hX228]; exact blk_other (blk_other (blk_other (blk_other K214.out (by simp only; omega)) (by simp only; omega)) (by simp only; omega)) (by simp only; omega))
    have D232 := Lib.hid (show DiskAt X228 X228.heap.size A c A' c' d by rw [hX228]; exact disk_set4 K213.out D215.out)
    have D233 := Lib.hid (show DiskAt X228 X228.heap.size A207 c208 A209 c210 xFlush by rw [hX228]; exact disk_set4 K213.out D211.out)
    have B234 := Lib.hid (show Below w.heap.size w X228 by rw [hX228]; exact (((B216.out.setCell (by simp only; omega) _).setCell (by simp only; omega) _).setCell (by simp only; omega) _).setCell (by simp only; omega) _)
    rw [← hX228]
    clear hX228
    obtain ⟨⟨a235, a236, a237, a238⟩, a239, a240, a241, a242⟩ := blk4 K229.out
    go_wp2_with fail
    clear a235 a236 a237 a238 a239 a240 a241 a242
    refine (HBFlush.out A c A' c' _ D232.out).mono ?_
    rintro e v243 ⟨A244, c245, A246, c247, he, hd, hbv243⟩
    unfold dv dcells at he
    subst he
    have K249 := Lib.hid (blk_call K229.out hbv243)
    have K250 := Lib.hid (blk_call K230.out hbv243)
    have K251 := Lib.hid (blk_call K231.out hbv243)
    have D252 := Lib.hid (D232.out.step hbv243)
    have D253 := Lib.hid (D233.out.step hbv243)
    have B254 := Lib.hid (B234.out.trans (hbv243.mono B234.out.size))
    have D248 := Lib.hid hd
    clear hd hbv243
    obtain ⟨⟨a255, a256, a257, a258⟩, a259, a260, a261, a262⟩ := blk4 K251.out
    have l263 := blk_lt K249.out
    have l264 := blk_lt K250.out
    have l265 := blk_lt K251.out
    go_upto_region 18 with fail
    clear a255 a256 a257 a258 a259 a260 a261 a262
    obtain ⟨X266, hX266⟩ : ∃ X, X = ((((v243.setCell ⟨v35.heap.size, 0, none⟩ (.slice A244 xFlush.secs.length c245)).setCell ⟨v35.heap.size, 1, none⟩ (.slice A246 xFlush.pend.length c247)).setCell ⟨v35.heap.size, 2, none⟩ (.int .i64 xFlush.left)).setCell ⟨v35.heap.size, 3, none⟩ (.bool xFlush.down)) := ⟨_, rfl⟩
    have K267 := Lib.hid (show X266.heap[w.heap.size]? = some (.cells #[.slice A d.secs.length c, .slice A' d.pend.length c', .int .i64 d.left, .bool d.down] 25 (0, 0)) by rw [hX266]; exact blk_other (blk_other (blk_other (blk_other K249.out (by simp only; omega)) (by simp only; omega)) (by simp only; omega)) (by simp only; omega))
    have K268 := Lib.hid (show X266.heap[v20.heap.size]? = some (.cells #[.slice A207 xFlush.secs.length c208, .slice A209 xFlush.pend.length c210, .int .i64 xFlush.left, .bool xFlush.down] 25 (0, 0)) by rw [hX266]; exact blk_other (blk_other (blk_other (blk_other K250.out (by simp only; omega)) (by simp only; omega)) (by simp only; omega)) (by simp only; omega))
    have K269 := Lib.hid (show X266.heap[v35.heap.size]? = some (.cells #[.slice A244 xFlush.secs.length c245, .slice A246 xFlush.pend.length c247, .int .i64 xFlush.left, .bool xFlush.down] 25 (0, 0)) by rw [hX266]; exact set4 K251.out)
    have D270 := Lib.hid (show DiskAt X266 X266.heap.size A c A' c' d by rw [hX266]; exact disk_set4 K251.out D252.out)
    have D271 := Lib.hid (show DiskAt X266 X266.heap.size A207 c208 A209 c210 xFlush by rw [hX266]; exact disk_set4 K251.out D253.out)
    have D272 := Lib.hid (show DiskAt X266 X266.heap.size A244 c245 A246 c247 xFlush by rw [hX266]; exact disk_set4 K251.out D248.out)
    have B273 := Lib.hid (show Below w.heap.size w X266 by rw [hX266]; exact (((B254.out.setCell (by simp only; omega) _).setCell (by simp only; omega) _).setCell (by simp only; omega) _).setCell (by simp only; omega) _)
    rw [← hX266]
    clear hX266
    obtain ⟨⟨a274, a275, a276, a277⟩, a278, a279, a280, a281⟩ := blk4 K268.out
    obtain ⟨⟨a282, a283, a284, a285⟩, a286, a287, a288, a289⟩ := blk4 K269.out
    go_wp2_with fail
    clear a274 a275 a276 a277 a278 a279 a280 a281 a282 a283 a284 a285 a286 a287 a288 a289
    refine (rsame_any A207 c208 A209 c210 A244 c245 A246 c247 xFlush _ D271.out D272.out).mono ?_
    rintro e v290 ⟨rfl, hbv290⟩
    have K291 := Lib.hid (blk_call K267.out hbv290)
    have K292 := Lib.hid (blk_call K268.out hbv290)
    have K293 := Lib.hid (blk_call K269.out hbv290)
    have D294 := Lib.hid (D270.out.step hbv290)
    have D295 := Lib.hid (D271.out.step hbv290)
    have D296 := Lib.hid (D272.out.step hbv290)
    have B297 := Lib.hid (B273.out.trans (hbv290.mono B273.out.size))
    clear hbv290
    have teFlush : (eFlush != eFlush) = false := by simp
    have tfFlush : (eFlush == eFlush) = true := by simp
    obtain ⟨⟨a298, a299, a300, a301⟩, a302, a303, a304, a305⟩ := blk4 K291.out
    go_wp2_with fail
    clear a298 a299 a300 a301 a302 a303 a304 a305
    refine (HAArm.out A c A' c' _ D294.out).mono ?_
    rintro e v306 ⟨A307, c308, A309, c310, he, hd, hbv306⟩
    unfold dv dcells at he
    subst he
    have K312 := Lib.hid (blk_call K291.out hbv306)
    have K313 := Lib.hid (blk_call K292.out hbv306)
    have K314 := Lib.hid (blk_call K293.out hbv306)
    have D315 := Lib.hid (D294.out.step hbv306)
    have B316 := Lib.hid (B297.out.trans (hbv306.mono B297.out.size))
    have D311 := Lib.hid hd
    clear hd hbv306
    obtain ⟨⟨a317, a318, a319, a320⟩, a321, a322, a323, a324⟩ := blk4 K313.out
    have l325 := blk_lt K312.out
    have l326 := blk_lt K313.out
    have l327 := blk_lt K314.out
    go_upto_region 21 with fail
    clear a317 a318 a319 a320 a321 a322 a323 a324
    obtain ⟨X328, hX328⟩ : ∃ X, X = ((((v306.setCell ⟨v20.heap.size, 0, none⟩ (.slice A307 xArm.secs.length c308)).setCell ⟨v20.heap.size, 1, none⟩ (.slice A309 xArm.pend.length c310)).setCell ⟨v20.heap.size, 2, none⟩ (.int .i64 xArm.left)).setCell ⟨v20.heap.size, 3, none⟩ (.bool xArm.down)) := ⟨_, rfl⟩
    have K329 := Lib.hid (show X328.heap[w.heap.size]? = some (.cells #[.slice A d.secs.length c, .slice A' d.pend.length c', .int .i64 d.left, .bool d.down] 25 (0, 0)) by rw [hX328]; exact blk_other (blk_other (blk_other (blk_other K312.out (by simp only; omega)) (by simp only; omega)) (by simp only; omega)) (by simp only; omega))
    have K330 := Lib.hid (show X328.heap[v20.heap.size]? = some (.cells #[.slice A307 xArm.secs.length c308, .slice A309 xArm.pend.length c310, .int .i64 xArm.left, .bool xArm.down] 25 (0, 0)) by rw [hX328]; exact set4 K313.out)
    have K331 := Lib.hid (show X328.heap[v35.heap.size]? = some (.cells #[.slice A244 xFlush.secs.length c245, .slice A246 xFlush.pend.length c247, .int .i64 xFlush.left, .bool xFlush.down] 25 (0, 0)) by rw [hX328]; exact blk_other (blk_other (blk_other (blk_other K314.out (by simp only; omega)) (by simp only; omega)) (by simp only; omega)) (by simp only; omega))
    have D332 := Lib.hid (show DiskAt X328 X328.heap.size A c A' c' d by rw [hX328]; exact disk_set4 K313.out D315.out)
    have D333 := Lib.hid (show DiskAt X328 X328.heap.size A307 c308 A309 c310 xArm by rw [hX328]; exact disk_set4 K313.out D311.out)
    have B334 := Lib.hid (show Below w.heap.size w X328 by rw [hX328]; exact (((B316.out.setCell (by simp only; omega) _).setCell (by simp only; omega) _).setCell (by simp only; omega) _).setCell (by simp only; omega) _)
    rw [← hX328]
    clear hX328
    obtain ⟨⟨a335, a336, a337, a338⟩, a339, a340, a341, a342⟩ := blk4 K329.out
    go_wp2_with fail
    clear a335 a336 a337 a338 a339 a340 a341 a342
    refine (HBArm.out A c A' c' _ D332.out).mono ?_
    rintro e v343 ⟨A344, c345, A346, c347, he, hd, hbv343⟩
    unfold dv dcells at he
    subst he
    have K349 := Lib.hid (blk_call K329.out hbv343)
    have K350 := Lib.hid (blk_call K330.out hbv343)
    have K351 := Lib.hid (blk_call K331.out hbv343)
    have D352 := Lib.hid (D332.out.step hbv343)
    have D353 := Lib.hid (D333.out.step hbv343)
    have B354 := Lib.hid (B334.out.trans (hbv343.mono B334.out.size))
    have D348 := Lib.hid hd
    clear hd hbv343
    obtain ⟨⟨a355, a356, a357, a358⟩, a359, a360, a361, a362⟩ := blk4 K351.out
    have l363 := blk_lt K349.out
    have l364 := blk_lt K350.out
    have l365 := blk_lt K351.out
    go_upto_region 22 with fail
    clear a355 a356 a357 a358 a359 a360 a361 a362
    obtain ⟨X366, hX366⟩ : ∃ X, X = ((((v343.setCell ⟨v35.heap.size, 0, none⟩ (.slice A344 xArm.secs.length c345)).setCell ⟨v35.heap.size, 1, none⟩ (.slice A346 xArm.pend.length c347)).setCell ⟨v35.heap.size, 2, none⟩ (.int .i64 xArm.left)).setCell ⟨v35.heap.size, 3, none⟩ (.bool xArm.down)) := ⟨_, rfl⟩
    have K367 := Lib.hid (show X366.heap[w.heap.size]? = some (.cells #[.slice A d.secs.length c, .slice A' d.pend.length c', .int .i64 d.left, .bool d.down] 25 (0, 0)) by rw [hX366]; exact blk_other (blk_other (blk_other (blk_other K349.out (by simp only; omega)) (by simp only; omega)) (by simp only; omega)) (by simp only; omega))
    have K368 := Lib.hid (show X366.heap[v20.heap.size]? = some (.cells #[.slice A307 xArm.secs.length c308, .slice A309 xArm.pend.length c310, .int .i64 xArm.left, .bool xArm.down] 25 (0, 0)) by rw [hX366]; exact blk_other (blk_other (blk_other (blk_other K350.out (by simp only; omega)) (by simp only; omega)) (by simp only; omega)) (by simp only; omega))
    have K369 := Lib.hid (show X366.heap[v35.heap.size]? = some (.cells #[.slice A344 xArm.secs.length c345, .slice A346 xArm.pend.length c347, .int .i64 xArm.left, .bool xArm.down] 25 (0, 0)) by rw [hX366]; exact set4 K351.out)
    have D370 := Lib.hid (show DiskAt X366 X366.heap.size A c A' c' d by rw [hX366]; exact disk_set4 K351.out D352.out)
    have D371 := Lib.hid (show DiskAt X366 X366.heap.size A307 c308 A309 c310 xArm by rw [hX366]; exact disk_set4 K351.out D353.out)
    have D372 := Lib.hid (show DiskAt X366 X366.heap.size A344 c345 A346 c347 xArm by rw [hX366]; exact disk_set4 K351.out D348.out)
    have B373 := Lib.hid (show Below w.heap.size w X366 by rw [hX366]; exact (((B354.out.setCell (by simp only; omega) _).setCell (by simp only; omega) _).setCell (by simp only; omega) _).setCell (by simp only; omega) _)
    rw [← hX366]
    clear hX366
    obtain ⟨⟨a374, a375, a376, a377⟩, a378, a379, a380, a381⟩ := blk4 K368.out
    obtain ⟨⟨a382, a383, a384, a385⟩, a386, a387, a388, a389⟩ := blk4 K369.out
    go_wp2_with fail
    clear a374 a375 a376 a377 a378 a379 a380 a381 a382 a383 a384 a385 a386 a387 a388 a389
    refine (rsame_any A307 c308 A309 c310 A344 c345 A346 c347 xArm _ D371.out D372.out).mono ?_
    rintro e v390 ⟨rfl, hbv390⟩
    have K391 := Lib.hid (blk_call K367.out hbv390)
    have K392 := Lib.hid (blk_call K368.out hbv390)
    have K393 := Lib.hid (blk_call K369.out hbv390)
    have D394 := Lib.hid (D370.out.step hbv390)
    have D395 := Lib.hid (D371.out.step hbv390)
    have D396 := Lib.hid (D372.out.step hbv390)
    have B397 := Lib.hid (B373.out.trans (hbv390.mono B373.out.size))
    clear hbv390
    have teArm : (eArm != eArm) = false := by simp
    have tfArm : (eArm == eArm) = true := by simp
    obtain ⟨⟨a398, a399, a400, a401⟩, a402, a403, a404, a405⟩ := blk4 K391.out
    go_wp2_with fail
    clear a398 a399 a400 a401 a402 a403 a404 a405
    refine (HACut.out A c A' c' _ D394.out).mono ?_
    rintro e v406 ⟨A407, c408, A409, c410, he, hd, hbv406⟩
    unfold dv dcells at he
    subst he
    have K412 := Lib.hid (blk_call K391.out hbv406)
    have K413 := Lib.hid (blk_call K392.out hbv406)
    have K414 := Lib.hid (blk_call K393.out hbv406)
    have D415 := Lib.hid (D394.out.step hbv406)
    have B416 := Lib.hid (B397.out.trans (hbv406.mono B397.out.size))
    have D411 := Lib.hid hd
    clear hd hbv406
    obtain ⟨⟨a417, a418, a419, a420⟩, a421, a422, a423, a424⟩ := blk4 K413.out
    have l425 := blk_lt K412.out
    have l426 := blk_lt K413.out
    have l427 := blk_lt K414.out
    go_upto_region 25 with fail
    clear a417 a418 a419 a420 a421 a422 a423 a424
    obtain ⟨X428, hX428⟩ : ∃ X, X = ((((v406.setCell ⟨v20.heap.size, 0, none⟩ (.slice A407 xCut.secs.length c408)).setCell ⟨v20.heap.size, 1, none⟩ (.slice A409 xCut.pend.length c410)).setCell ⟨v20.heap.size, 2, none⟩ (.int .i64 xCut.left)).setCell ⟨v20.heap.size, 3, none⟩ (.bool xCut.down)) := ⟨_, rfl⟩
    have K429 := Lib.hid (show X428.heap[w.heap.size]? = some (.cells #[.slice A d.secs.length c, .slice A' d.pend.length c', .int .i64 d.left, .bool d.down] 25 (0, 0)) by rw [hX428]; exact blk_other (blk_other (blk_other (blk_other K412.out (by simp only; omega)) (by simp only; omega)) (by simp only; omega)) (by simp only; omega))
    have K430 := Lib.hid (show X428.heap[v20.heap.size]? = some (.cells #[.slice A407 xCut.secs.length c408, .slice A409 xCut.pend.length c410, .int .i64 xCut.left, .bool xCut.down] 25 (0, 0)) by rw [hX428]; exact set4 K413.out)
    have K431 := Lib.hid (show X428.heap[v35.heap.size]? = some (.cells #[.slice A344 xArm.secs.length c345, .slice A346 xArm.pend.length c347, .int .i64 xArm.left, .bool xArm.down] 25 (0, 0)) by rw [hX428]; exact blk_other (blk_other (blk_other (blk_other K414.out (by simp only; omega)) (by simp only; omega)) (by simp only; omega)) (by simp only; omega))
    have D432 := Lib.hid (show DiskAt X428 X428.heap.size A c A' c' d by rw [hX428]; exact disk_set4 K413.out D415.out)
    have D433 := Lib.hid (show DiskAt X428 X428.heap.size A407 c408 A409 c410 xCut by rw [hX428]; exact disk_set4 K413.out D411.out)
    have B434 := Lib.hid (show Below w.heap.size w X428 by rw [hX428]; exact (((B416.out.setCell (by simp only; omega) _).setCell (by simp only; omega) _).setCell (by simp only; omega) _).setCell (by simp only; omega) _)
    rw [← hX428]
    clear hX428
    obtain ⟨⟨a435, a436, a437, a438⟩, a439, a440, a441, a442⟩ := blk4 K429.out
    go_wp2_with fail
    clear a435 a436 a437 a438 a439 a440 a441 a442
    refine (HBCut.out A c A' c' _ D432.out).mono ?_
    rintro e v443 ⟨A444, c445, A446, c447, he, hd, hbv443⟩
    unfold dv dcells at he
    subst he
    have K449 := Lib.hid (blk_call K429.out hbv443)
    have K450 := Lib.hid (blk_call K430.out hbv443)
    have K451 := Lib.hid (blk_call K431.out hbv443)
    have D452 := Lib.hid (D432.out.step hbv443)
    have D453 := Lib.hid (D433.out.step hbv443)
    have B454 := Lib.hid (B434.out.trans (hbv443.mono B434.out.size))
    have D448 := Lib.hid hd
    clear hd hbv443
    obtain ⟨⟨a455, a456, a457, a458⟩, a459, a460, a461, a462⟩ := blk4 K451.out
    have l463 := blk_lt K449.out
    have l464 := blk_lt K450.out
    have l465 := blk_lt K451.out
    go_upto_region 26 with fail
    clear a455 a456 a457 a458 a459 a460 a461 a462
    obtain ⟨X466, hX466⟩ : ∃ X, X = ((((v443.setCell ⟨v35.heap.size, 0, none⟩ (.slice A444 xCut.secs.length c445)).setCell ⟨v35.heap.size, 1, none⟩ (.slice A446 xCut.pend.length c447)).setCell ⟨v35.heap.size, 2, none⟩ (.int .i64 xCut.left)).setCell ⟨v35.heap.size, 3, none⟩ (.bool xCut.down)) := ⟨_, rfl⟩
    have K467 := Lib.hid (show X466.heap[w.heap.size]? = some (.cells #[.slice A d.secs.length c, .slice A' d.pend.length c', .int .i64 d.left, .bool d.down] 25 (0, 0)) by rw [hX466]; exact blk_other (blk_other (blk_other (blk_other K449.out (by simp only; omega)) (by simp only; omega)) (by simp only; omega)) (by simp only; omega))
    have K468 := Lib.hid (show X466.heap[v20.heap.size]? = some (.cells #[.slice A407 xCut.secs.length c408, .slice A409 xCut.pend.length c410, .int .i64 xCut.left, .bool xCut.down] 25 (0, 0)) by rw [hX466]; exact blk_other (blk_other (blk_other (blk_other K450.out (by simp only; omega)) (by simp only; omega)) (by simp only; omega)) (by simp only; omega))
    have K469 := Lib.hid (show X466.heap[v35.heap.size]? = some (.cells #[.slice A444 xCut.secs.length c445, .slice A446 xCut.pend.length c447, .int .i64 xCut.left, .bool xCut.down] 25 (0, 0)) by rw [hX466]; exact set4 K451.out)
    have D470 := Lib.hid (show DiskAt X466 X466.heap.size A c A' c' d by rw [hX466]; exact disk_set4 K451.out D452.out)
    have D471 := Lib.hid (show DiskAt X466 X466.heap.size A407 c408 A409 c410 xCut by rw [hX466]; exact disk_set4 K451.out D453.out)
    have D472 := Lib.hid (show DiskAt X466 X466.heap.size A444 c445 A446 c447 xCut by rw [hX466]; exact disk_set4 K451.out D448.out)
    have B473 := Lib.hid (show Below w.heap.size w X466 by rw [hX466]; exact (((B454.out.setCell (by simp only; omega) _).setCell (by simp only; omega) _).setCell (by simp only; omega) _).setCell (by simp only; omega) _)
    rw [← hX466]
    clear hX466
    obtain ⟨⟨a474, a475, a476, a477⟩, a478, a479, a480, a481⟩ := blk4 K468.out
    obtain ⟨⟨a482, a483, a484, a485⟩, a486, a487, a488, a489⟩ := blk4 K469.out
    go_wp2_with fail
    clear a474 a475 a476 a477 a478 a479 a480 a481 a482 a483 a484 a485 a486 a487 a488 a489
    refine (rsame_any A407 c408 A409 c410 A444 c445 A446 c447 xCut _ D471.out D472.out).mono ?_
    rintro e v490 ⟨rfl, hbv490⟩
    have K491 := Lib.hid (blk_call K467.out hbv490)
    have K492 := Lib.hid (blk_call K468.out hbv490)
    have K493 := Lib.hid (blk_call K469.out hbv490)
    have D494 := Lib.hid (D470.out.step hbv490)
    have D495 := Lib.hid (D471.out.step hbv490)
    have D496 := Lib.hid (D472.out.step hbv490)
    have B497 := Lib.hid (B473.out.trans (hbv490.mono B473.out.size))
    clear hbv490
    have teCut : (eCut != eCut) = false := by simp
    have tfCut : (eCut == eCut) = true := by simp
    obtain ⟨⟨a498, a499, a500, a501⟩, a502, a503, a504, a505⟩ := blk4 K491.out
    go_wp2_with fail
    clear a498 a499 a500 a501 a502 a503 a504 a505
    refine (HAStart.out A c A' c' _ D494.out).mono ?_
    rintro e v506 ⟨A507, c508, A509, c510, he, hd, hbv506⟩
    unfold dv dcells at he
    subst he
    have K512 := Lib.hid (blk_call K491.out hbv506)
    have K513 := Lib.hid (blk_call K492.out hbv506)
    have K514 := Lib.hid (blk_call K493.out hbv506)
    have D515 := Lib.hid (D494.out.step hbv506)
    have B516 := Lib.hid (B497.out.trans (hbv506.mono B497.out.size))
    have D511 := Lib.hid hd
    clear hd hbv506
    obtain ⟨⟨a517, a518, a519, a520⟩, a521, a522, a523, a524⟩ := blk4 K513.out
    have l525 := blk_lt K512.out
    have l526 := blk_lt K513.out
    have l527 := blk_lt K514.out
    go_upto_region 29 with fail
    clear a517 a518 a519 a520 a521 a522 a523 a524
    obtain ⟨X528, hX528⟩ : ∃ X, X = ((((v506.setCell ⟨v20.heap.size, 0, none⟩ (.slice A507 xStart.secs.length c508)).setCell ⟨v20.heap.size, 1, none⟩ (.slice A509 xStart.pend.length c510)).setCell ⟨v20.heap.size, 2, none⟩ (.int .i64 xStart.left)).setCell ⟨v20.heap.size, 3, none⟩ (.bool xStart.down)) := ⟨_, rfl⟩
    have K529 := Lib.hid (show X528.heap[w.heap.size]? = some (.cells #[.slice A d.secs.length c, .slice A' d.pend.length c', .int .i64 d.left, .bool d.down] 25 (0, 0)) by rw [hX528]; exact blk_other (blk_other (blk_other (blk_other K512.out (by simp only; omega)) (by simp only; omega)) (by simp only; omega)) (by simp only; omega))
    have K530 := Lib.hid (show X528.heap[v20.heap.size]? = some (.cells #[.slice A507 xStart.secs.length c508, .slice A509 xStart.pend.length c510, .int .i64 xStart.left, .bool xStart.down] 25 (0, 0)) by rw [hX528]; exact set4 K513.out)
    have K531 := Lib.hid (show X528.heap[v35.heap.size]? = some (.cells #[.slice A444 xCut.secs.length c445, .slice A446 xCut.pend.length c447, .int .i64 xCut.left, .bool xCut.down] 25 (0, 0)) by rw [hX528]; exact blk_other (blk_other (blk_other (blk_other K514.out (by simp only; omega)) (by simp only; omega)) (by simp only; omega)) (by simp only; omega))
    have D532 := Lib.hid (show DiskAt X528 X528.heap.size A c A' c' d by rw [hX528]; exact disk_set4 K513.out D515.out)
    have D533 := Lib.hid (show DiskAt X528 X528.heap.size A507 c508 A509 c510 xStart by rw [hX528]; exact disk_set4 K513.out D511.out)
    have B534 := Lib.hid (show Below w.heap.size w X528 by rw [hX528]; exact (((B516.out.setCell (by simp only; omega) _).setCell (by simp only; omega) _).setCell (by simp only; omega) _).setCell (by simp only; omega) _)
    rw [← hX528]
    clear hX528
    obtain ⟨⟨a535, a536, a537, a538⟩, a539, a540, a541, a542⟩ := blk4 K529.out
    go_wp2_with fail
    clear a535 a536 a537 a538 a539 a540 a541 a542
    refine (HBStart.out A c A' c' _ D532.out).mono ?_
    rintro e v543 ⟨A544, c545, A546, c547, he, hd, hbv543⟩
    unfold dv dcells at he
    subst he
    have K549 := Lib.hid (blk_call K529.out hbv543)
    have K550 := Lib.hid (blk_call K530.out hbv543)
    have K551 := Lib.hid (blk_call K531.out hbv543)
    have D552 := Lib.hid (D532.out.step hbv543)
    have D553 := Lib.hid (D533.out.step hbv543)
    have B554 := Lib.hid (B534.out.trans (hbv543.mono B534.out.size))
    have D548 := Lib.hid hd
    clear hd hbv543
    obtain ⟨⟨a555, a556, a557, a558⟩, a559, a560, a561, a562⟩ := blk4 K551.out
    have l563 := blk_lt K549.out
    have l564 := blk_lt K550.out
    have l565 := blk_lt K551.out
    go_upto_region 30 with fail
    clear a555 a556 a557 a558 a559 a560 a561 a562
    obtain ⟨X566, hX566⟩ : ∃ X, X = ((((v543.setCell ⟨v35.heap.size, 0, none⟩ (.slice A544 xStart.secs.length c545)).setCell ⟨v35.heap.size, 1, none⟩ (.slice A546 xStart.pend.length c547)).setCell ⟨v35.heap.size, 2, none⟩ (.int .i64 xStart.left)).setCell ⟨v35.heap.size, 3, none⟩ (.bool xStart.down)) := ⟨_, rfl⟩
    have K567 := Lib.hid (show X566.heap[w.heap.size]? = some (.cells #[.slice A d.secs.length c, .slice A' d.pend.length c', .int .i64 d.left, .bool d.down] 25 (0, 0)) by rw [hX566]; exact blk_other (blk_other (blk_other (blk_other K549.out (by simp only; omega)) (by simp only; omega)) (by simp only; omega)) (by simp only; omega))
    have K568 := Lib.hid (show X566.heap[v20.heap.size]? = some (.cells #[.slice A507 xStart.secs.length c508, .slice A509 xStart.pend.length c510, .int .i64 xStart.left, .bool xStart.down] 25 (0, 0)) by rw [hX566]; exact blk_other (blk_other (blk_other (blk_other K550.out (by simp only; omega)) (by simp only; omega)) (by simp only; omega)) (by simp only; omega))
    have K569 := Lib.hid (show X566.heap[v35.heap.size]? = some (.cells #[.slice A544 xStart.secs.length c545, .slice A546 xStart.pend.length c547, .int .i64 xStart.left, .bool xStart.down] 25 (0, 0)) by rw [hX566]; exact set4 K551.out)
    have D570 := Lib.hid (show DiskAt X566 X566.heap.size A c A' c' d by rw [hX566]; exact disk_set4 K551.out D552.out)
    have D571 := Lib.hid (show DiskAt X566 X566.heap.size A507 c508 A509 c510 xStart by rw [hX566]; exact disk_set4 K551.out D553.out)
    have D572 := Lib.hid (show DiskAt X566 X566.heap.size A544 c545 A546 c547 xStart by rw [hX566]; exact disk_set4 K551.out D548.out)
    have B573 := Lib.hid (show Below w.heap.size w X566 by rw [hX566]; exact (((B554.out.setCell (by simp only; omega) _).setCell (by simp only; omega) _).setCell (by simp only; omega) _).setCell (by simp only; omega) _)
    rw [← hX566]
    clear hX566
    obtain ⟨⟨a574, a575, a576, a577⟩, a578, a579, a580, a581⟩ := blk4 K568.out
    obtain ⟨⟨a582, a583, a584, a585⟩, a586, a587, a588, a589⟩ := blk4 K569.out
    go_wp2_with fail
    clear a574 a575 a576 a577 a578 a579 a580 a581 a582 a583 a584 a585 a586 a587 a588 a589
    refine (rsame_any A507 c508 A509 c510 A544 c545 A546 c547 xStart _ D571.out D572.out).mono ?_
    rintro e v590 ⟨rfl, hbv590⟩
    have K591 := Lib.hid (blk_call K567.out hbv590)
    have K592 := Lib.hid (blk_call K568.out hbv590)
    have K593 := Lib.hid (blk_call K569.out hbv590)
    have D594 := Lib.hid (D570.out.step hbv590)
    have D595 := Lib.hid (D571.out.step hbv590)
    have D596 := Lib.hid (D572.out.step hbv590)
    have B597 := Lib.hid (B573.out.trans (hbv590.mono B573.out.size))
    clear hbv590
    have teStart : (eStart != eStart) = false := by simp
    have tfStart : (eStart == eStart) = true := by simp
    obtain ⟨⟨a598, a599, a600, a601⟩, a602, a603, a604, a605⟩ := blk4 K591.out
    go_wp2_with fail
    go_ret
    exact ⟨rfl, B597.out⟩

end Go.Proofs.Ytlfiooenbgegkaa
