/- The walk of DiskTears. -/
import Derived.Test.YtlfiooenbgegkaaDn
namespace Go.Proofs.Ytlfiooenbgegkaa
open Go.RowKit Ds
set_option linter.unusedSimpArgs false
set_option linter.unusedVariables false

theorem disk_few {w : World} {B : Nat} {A : Option Addr} {c : Nat} {A' : Option Addr} {c' : Nat} {d : Dk} (h : DiskAt w B A c A' c' d) (k : Nat) (hk : k ≤ d.pend.length) : DiskAt w B A c A' c' ⟨d.secs, d.pend.take k, -1, d.down⟩ := by
  have h1 := h.lP
  have h2 := h.cP
  refine ⟨h.secs, fun hn => ?_, h.lS, by simp; omega, by simp; omega⟩
  obtain ⟨b, off, e, hb, hc⟩ := h.pend (fun e => hn (by simp only [e, List.take_nil]))
  exact ⟨b, off, e, hb, fun i x hx => hc i x (by rw [List.getElem?_take] at hx; split at hx; exact hx; cases hx)⟩

set_option maxRecDepth 100000 in
set_option maxHeartbeats 16000000 in
theorem tears_no (d off on x : Dk) (got want : List ByteArray) (at_ : Int) (kn : Nat) (A : Option Addr) (c : Nat) (A' : Option Addr) (c' : Nat) (w : World) (hd0 : DiskAt w w.heap.size A c A' c' d)
    (HS : Hid (∀ w, Calls Try.prog 8 #[] w fun e w' => e = .returned (.bool true) ∧ Below w.heap.size w w'))
    (HR : Hid (CallV 27 d [] (.bool false)))
    : Calls Try.prog 6 #[dv A c A' c' d, .int .u8 at_] w fun e w' => e = .returned (.bool true) ∧ Below w.heap.size w w' := by
  have hcp := hd0.cP
  have HD := Lib.hid hd0
  have B0 := Lib.hid (Below.refl w.heap.size w)
  clear hd0
  unfold dv dcells
  go_enter Try.func6, Try.ntmps6
  go_wp2_with fail
  obtain ⟨X1, hX1⟩ : ∃ X, X = w.alloc (.cells #[.slice A d.secs.length c, .slice A' d.pend.length c', .int .i64 d.left, .bool d.down] 25) := ⟨_, rfl⟩
  have bX1 : Below w.heap.size w X1 := by rw [hX1]; exact (Below.refl _ _).alloc (Nat.le_refl _) _
  have D2 := Lib.hid (HD.out.step bX1)
  have B3 := Lib.hid (B0.out.trans (bX1.mono B0.out.size))
  have K4 := Lib.hid (show X1.heap[w.heap.size]? = some (.cells #[.slice A d.secs.length c, .slice A' d.pend.length c', .int .i64 d.left, .bool d.down] 25 (0, 0)) by rw [hX1]; exact blk_new _ _)
  rw [← hX1]
  clear hX1
  refine (HS.out X1).mono ?_
  rintro e v5 ⟨rfl, hbv5⟩
  have K6 := Lib.hid (blk_call K4.out hbv5)
  have D7 := Lib.hid (D2.out.step hbv5)
  have B8 := Lib.hid (B3.out.trans (hbv5.mono B3.out.size))
  clear hbv5
  obtain ⟨⟨a9, a10, a11, a12⟩, a13, a14, a15, a16⟩ := blk4 K6.out
  go_wp2_with fail
  clear a9 a10 a11 a12 a13 a14 a15 a16
  refine (HR.out A c A' c' _ D7.out).mono ?_
  rintro e v17 ⟨rfl, hbv17⟩
  have K18 := Lib.hid (blk_call K6.out hbv17)
  have D19 := Lib.hid (D7.out.step hbv17)
  have B20 := Lib.hid (B8.out.trans (hbv17.mono B8.out.size))
  clear hbv17
  obtain ⟨⟨a21, a22, a23, a24⟩, a25, a26, a27, a28⟩ := blk4 K18.out
  go_wp2_with fail
  go_ret
  exact ⟨rfl, B20.out⟩

set_option maxRecDepth 100000 in
set_option maxHeartbeats 16000000 in
theorem tears_none (d off on x : Dk) (got want : List ByteArray) (at_ : Int) (kn : Nat) (A : Option Addr) (c : Nat) (A' : Option Addr) (c' : Nat) (w : World) (hd0 : DiskAt w w.heap.size A c A' c' d)
    (HS : Hid (∀ w, Calls Try.prog 8 #[] w fun e w' => e = .returned (.bool true) ∧ Below w.heap.size w w'))
    (HR : Hid (CallV 27 d [] (.bool true)))
    (g1 : ((d.pend.length : Int) == 0) = true)
    : Calls Try.prog 6 #[dv A c A' c' d, .int .u8 at_] w fun e w' => e = .returned (.bool true) ∧ Below w.heap.size w w' := by
  have hcp := hd0.cP
  have HD := Lib.hid hd0
  have B0 := Lib.hid (Below.refl w.heap.size w)
  clear hd0
  unfold dv dcells
  go_enter Try.func6, Try.ntmps6
  go_wp2_with fail
  obtain ⟨X1, hX1⟩ : ∃ X, X = w.alloc (.cells #[.slice A d.secs.length c, .slice A' d.pend.length c', .int .i64 d.left, .bool d.down] 25) := ⟨_, rfl⟩
  have bX1 : Below w.heap.size w X1 := by rw [hX1]; exact (Below.refl _ _).alloc (Nat.le_refl _) _
  have D2 := Lib.hid (HD.out.step bX1)
  have B3 := Lib.hid (B0.out.trans (bX1.mono B0.out.size))
  have K4 := Lib.hid (show X1.heap[w.heap.size]? = some (.cells #[.slice A d.secs.length c, .slice A' d.pend.length c', .int .i64 d.left, .bool d.down] 25 (0, 0)) by rw [hX1]; exact blk_new _ _)
  rw [← hX1]
  clear hX1
  refine (HS.out X1).mono ?_
  rintro e v5 ⟨rfl, hbv5⟩
  have K6 := Lib.hid (blk_call K4.out hbv5)
  have D7 := Lib.hid (D2.out.step hbv5)
  have B8 := Lib.hid (B3.out.trans (hbv5.mono B3.out.size))
  clear hbv5
  obtain ⟨⟨a9, a10, a11, a12⟩, a13, a14, a15, a16⟩ := blk4 K6.out
  go_wp2_with fail
  clear a9 a10 a11 a12 a13 a14 a15 a16
  refine (HR.out A c A' c' _ D7.out).mono ?_
  rintro e v17 ⟨rfl, hbv17⟩
  have K18 := Lib.hid (blk_call K6.out hbv17)
  have D19 := Lib.hid (D7.out.step hbv17)
  have B20 := Lib.hid (B8.out.trans (hbv17.mono B8.out.size))
  clear hbv17
  obtain ⟨⟨a21, a22, a23, a24⟩, a25, a26, a27, a28⟩ := blk4 K18.out
  go_wp2_with fail
  go_ret
  exact ⟨rfl, B20.out⟩

set_option maxRecDepth 100000 in
set_option maxHeartbeats 16000000 in
theorem tears_main (d off on x : Dk) (got want : List ByteArray) (at_ : Int) (kn : Nat) (A : Option Addr) (c : Nat) (A' : Option Addr) (c' : Nat) (w : World) (hd0 : DiskAt w w.heap.size A c A' c' d)
    (HS : Hid (∀ w, Calls Try.prog 8 #[] w fun e w' => e = .returned (.bool true) ∧ Below w.heap.size w w'))
    (HR : Hid (CallV 27 d [] (.bool true)))
    (g1 : ((d.pend.length : Int) == 0) = false) (g3 : 1 ≤ d.pend.length) (g4 : 0 ≤ at_) (g5 : at_ ≤ 255) (hk : at_ % (d.pend.length : Int) = (kn : Nat)) (hkn : kn < d.pend.length) (hp5 : d.pend.length ≤ 512) (hd5 : d.secs.length ≤ 512)
    (HA : Hid (CallD 21 d [.int .i64 (kn : Nat)] ⟨d.secs, d.pend, (kn : Nat), d.down⟩ 0)) (HF : Hid (CallD 19 ⟨d.secs, d.pend, (kn : Nat), d.down⟩ [] off 8)) (HN : Hid (CallD 25 off [] on 0))
    (HC1 : Hid (∀ A c A' c' w, DiskAt w w.heap.size A c A' c' on → Calls Try.prog 28 #[dv A c A' c' on] w (ListEnd w got true)))
    (HF2 : Hid (∀ A c A' c' w, DiskAt w w.heap.size A c A' c' ⟨d.secs, d.pend.take kn, -1, d.down⟩ → Calls Try.prog 19 #[.agg #[.slice A d.secs.length c, .slice A' kn c', .int .i64 (-1), .bool d.down]] w (DiskEnd w x 0)))
    (HC2 : Hid (∀ A c A' c' w, DiskAt w w.heap.size A c A' c' x → Calls Try.prog 28 #[dv A c A' c' x] w (ListEnd w want true)))
    (hgl : Hid (got.length = d.secs.length)) (hwl : Hid (want.length = d.secs.length)) (hp0 : on.pend.length ≤ 0) (hol : (on.left != -1) = false) (HK : Hid (CallV 13 off [] (.int .i64 0))) (wx : Wr) (HX : Hid (d.pend[kn]? = some wx)) (hx16 : wx.text.size = 16)
    (HG : Hid (∀ i : Nat, i < d.secs.length → ∃ gs ws : ByteArray, got[i]? = some gs ∧ want[i]? = some ws ∧ gs.size = 16 ∧ ws.size = 16 ∧ ∀ k (h1 : k < gs.size) (h2 : k < ws.size) (h3 : k < wx.text.size), ((i : Int) = wx.at_ ∧ k < 8 → gs[k] = wx.text[k]) ∧ (¬ ((i : Int) = wx.at_ ∧ k < 8) → gs[k] = ws[k])))
    : Calls Try.prog 6 #[dv A c A' c' d, .int .u8 at_] w fun e w' => e = .returned (.bool true) ∧ Below w.heap.size w w' := by
  have hcp := hd0.cP
  have HD := Lib.hid hd0
  have B0 := Lib.hid (Below.refl w.heap.size w)
  clear hd0
  unfold dv dcells
  go_enter Try.func6, Try.ntmps6
  go_wp2_with fail
  obtain ⟨X1, hX1⟩ : ∃ X, X = w.alloc (.cells #[.slice A d.secs.length c, .slice A' d.pend.length c', .int .i64 d.left, .bool d.down] 25) := ⟨_, rfl⟩
  have bX1 : Below w.heap.size w X1 := by rw [hX1]; exact (Below.refl _ _).alloc (Nat.le_refl _) _
  have D2 := Lib.hid (HD.out.step bX1)
  have B3 := Lib.hid (B0.out.trans (bX1.mono B0.out.size))
  have K4 := Lib.hid (show X1.heap[w.heap.size]? = some (.cells #[.slice A d.secs.length c, .slice A' d.pend.length c', .int .i64 d.left, .bool d.down] 25 (0, 0)) by rw [hX1]; exact blk_new _ _)
  rw [← hX1]
  clear hX1
  refine (HS.out X1).mono ?_
  rintro e v5 ⟨rfl, hbv5⟩
  have K6 := Lib.hid (blk_call K4.out hbv5)
  have D7 := Lib.hid (D2.out.step hbv5)
  have B8 := Lib.hid (B3.out.trans (hbv5.mono B3.out.size))
  clear hbv5
  obtain ⟨⟨a9, a10, a11, a12⟩, a13, a14, a15, a16⟩ := blk4 K6.out
  go_wp2_with fail
  clear a9 a10 a11 a12 a13 a14 a15 a16
  refine (HR.out A c A' c' _ D7.out).mono ?_
  rintro e v17 ⟨rfl, hbv17⟩
  have K18 := Lib.hid (blk_call K6.out hbv17)
  have D19 := Lib.hid (D7.out.step hbv17)
  have B20 := Lib.hid (B8.out.trans (hbv17.mono B8.out.size))
  clear hbv17
  obtain ⟨⟨a21, a22, a23, a24⟩, a25, a26, a27, a28⟩ := blk4 K18.out
  go_wp2_with fail
  clear a21 a22 a23 a24 a25 a26 a27 a28
  refine (HA.out A c A' c' _ D19.out).mono ?_
  rintro e v29 ⟨A30, c31, A32, c33, he, hd, hbv29⟩
  unfold dv dcells at he
  subst he
  have K35 := Lib.hid (blk_call K18.out hbv29)
  have D36 := Lib.hid (D19.out.step hbv29)
  have B37 := Lib.hid (B20.out.trans (hbv29.mono B20.out.size))
  have D34 := Lib.hid hd
  clear hd hbv29
  go_wp2_with fail
  obtain ⟨X38, hX38⟩ : ∃ X, X = v29.alloc (.cells #[.slice A30 d.secs.length c31, .slice A32 d.pend.length c33, .int .i64 (kn : Nat), .bool d.down] 25) := ⟨_, rfl⟩
  have bX38 : Below v29.heap.size v29 X38 := by rw [hX38]; exact (Below.refl _ _).alloc (Nat.le_refl _) _
  have K39 := Lib.hid (blk_call K35.out bX38)
  have D40 := Lib.hid (D36.out.step bX38)
  have D41 := Lib.hid (D34.out.step bX38)
  have B42 := Lib.hid (B37.out.trans (bX38.mono B37.out.size))
  have K43 := Lib.hid (show X38.heap[v29.heap.size]? = some (.cells #[.slice A30 d.secs.length c31, .slice A32 d.pend.length c33, .int .i64 (kn : Nat), .bool d.down] 25 (0, 0)) by rw [hX38]; exact blk_new _ _)
  rw [← hX38]
  clear hX38
  refine (HF.out A30 c31 A32 c33 _ D41.out).mono ?_
  rintro e v44 ⟨A45, c46, A47, c48, he, hd, hbv44⟩
  unfold dv dcells at he
  subst he
  have K50 := Lib.hid (blk_call K39.out hbv44)
  have K51 := Lib.hid (blk_call K43.out hbv44)
  have D52 := Lib.hid (D40.out.step hbv44)
  have D53 := Lib.hid (D41.out.step hbv44)
  have B54 := Lib.hid (B42.out.trans (hbv44.mono B42.out.size))
  have D49 := Lib.hid hd
  clear hd hbv44
  go_wp2_with fail
  obtain ⟨X55, hX55⟩ : ∃ X, X = v44.alloc (.cells #[.slice A45 off.secs.length c46, .slice A47 off.pend.length c48, .int .i64 off.left, .bool off.down] 25) := ⟨_, rfl⟩
  have bX55 : Below v44.heap.size v44 X55 := by rw [hX55]; exact (Below.refl _ _).alloc (Nat.le_refl _) _
  have K56 := Lib.hid (blk_call K50.out bX55)
  have K57 := Lib.hid (blk_call K51.out bX55)
  have D58 := Lib.hid (D52.out.step bX55)
  have D59 := Lib.hid (D53.out.step bX55)
  have D60 := Lib.hid (D49.out.step bX55)
  have B61 := Lib.hid (B54.out.trans (bX55.mono B54.out.size))
  have K62 := Lib.hid (show X55.heap[v44.heap.size]? = some (.cells #[.slice A45 off.secs.length c46, .slice A47 off.pend.length c48, .int .i64 off.left, .bool off.down] 25 (0, 0)) by rw [hX55]; exact blk_new _ _)
  rw [← hX55]
  clear hX55
  refine (HN.out A45 c46 A47 c48 _ D60.out).mono ?_
  rintro e v63 ⟨A64, c65, A66, c67, he, hd, hbv63⟩
  unfold dv dcells at he
  subst he
  have K69 := Lib.hid (blk_call K56.out hbv63)
  have K70 := Lib.hid (blk_call K57.out hbv63)
  have K71 := Lib.hid (blk_call K62.out hbv63)
  have D72 := Lib.hid (D58.out.step hbv63)
  have D73 := Lib.hid (D59.out.step hbv63)
  have D74 := Lib.hid (D60.out.step hbv63)
  have B75 := Lib.hid (B61.out.trans (hbv63.mono B61.out.size))
  have D68 := Lib.hid hd
  clear hd hbv63
  go_wp2_with fail
  obtain ⟨X76, hX76⟩ : ∃ X, X = v63.alloc (.cells #[.slice A64 on.secs.length c65, .slice A66 on.pend.length c67, .int .i64 on.left, .bool on.down] 25) := ⟨_, rfl⟩
  have bX76 : Below v63.heap.size v63 X76 := by rw [hX76]; exact (Below.refl _ _).alloc (Nat.le_refl _) _
  have K77 := Lib.hid (blk_call K69.out bX76)
  have K78 := Lib.hid (blk_call K70.out bX76)
  have K79 := Lib.hid (blk_call K71.out bX76)
  have D80 := Lib.hid (D72.out.step bX76)
  have D81 := Lib.hid (D73.out.step bX76)
  have D82 := Lib.hid (D74.out.step bX76)
  have D83 := Lib.hid (D68.out.step bX76)
  have B84 := Lib.hid (B75.out.trans (bX76.mono B75.out.size))
  have K85 := Lib.hid (show X76.heap[v63.heap.size]? = some (.cells #[.slice A64 on.secs.length c65, .slice A66 on.pend.length c67, .int .i64 on.left, .bool on.down] 25 (0, 0)) by rw [hX76]; exact blk_new _ _)
  rw [← hX76]
  clear hX76
  refine (HC1.out A64 c65 A66 c67 _ D83.out).mono ?_
  rintro e v86 ⟨A87, c88, rfl, hd, hbv86⟩
  have K90 := Lib.hid (blk_call K77.out hbv86)
  have K91 := Lib.hid (blk_call K78.out hbv86)
  have K92 := Lib.hid (blk_call K79.out hbv86)
  have K93 := Lib.hid (blk_call K85.out hbv86)
  have D94 := Lib.hid (D80.out.step hbv86)
  have D95 := Lib.hid (D81.out.step hbv86)
  have D96 := Lib.hid (D82.out.step hbv86)
  have D97 := Lib.hid (D83.out.step hbv86)
  have B98 := Lib.hid (B84.out.trans (hbv86.mono B84.out.size))
  have R89 := Lib.hid hd
  clear hd hbv86
  obtain ⟨⟨a99, a100, a101, a102⟩, a103, a104, a105, a106⟩ := blk4 K90.out
  have l107 := blk_lt K90.out
  have hkc : kn ≤ c' := by omega
  go_upto_region 12 with fail
  clear a99 a100 a101 a102 a103 a104 a105 a106
  obtain ⟨X108, hX108⟩ : ∃ X, X = v86.alloc (.cells #[.slice A d.secs.length c, .slice A' kn c', .int .i64 (-1), .bool d.down] 25) := ⟨_, rfl⟩
  have bX108 : Below v86.heap.size v86 X108 := by rw [hX108]; exact (Below.refl _ _).alloc (Nat.le_refl _) _
  have K109 := Lib.hid (blk_call K90.out bX108)
  have K110 := Lib.hid (blk_call K91.out bX108)
  have K111 := Lib.hid (blk_call K92.out bX108)
  have K112 := Lib.hid (blk_call K93.out bX108)
  have D113 := Lib.hid (D94.out.step bX108)
  have D114 := Lib.hid (D95.out.step bX108)
  have D115 := Lib.hid (D96.out.step bX108)
  have D116 := Lib.hid (D97.out.step bX108)
  have R117 := Lib.hid (R89.out.step bX108)
  have B118 := Lib.hid (B98.out.trans (bX108.mono B98.out.size))
  have K119 := Lib.hid (show X108.heap[v86.heap.size]? = some (.cells #[.slice A d.secs.length c, .slice A' kn c', .int .i64 (-1), .bool d.down] 25 (0, 0)) by rw [hX108]; exact blk_new _ _)
  rw [← hX108]
  clear hX108
  obtain ⟨⟨a120, a121, a122, a123⟩, a124, a125, a126, a127⟩ := blk4 K119.out
  go_wp2_with fail
  clear a120 a121 a122 a123 a124 a125 a126 a127
  refine (HF2.out A c A' c' _ (disk_few D113.out kn (by omega))).mono ?_
  rintro e v128 ⟨A129, c130, A131, c132, he, hd, hbv128⟩
  unfold dv dcells at he
  subst he
  have K134 := Lib.hid (blk_call K109.out hbv128)
  have K135 := Lib.hid (blk_call K110.out hbv128)
  have K136 := Lib.hid (blk_call K111.out hbv128)
  have K137 := Lib.hid (blk_call K112.out hbv128)
  have K138 := Lib.hid (blk_call K119.out hbv128)
  have D139 := Lib.hid (D113.out.step hbv128)
  have D140 := Lib.hid (D114.out.step hbv128)
  have D141 := Lib.hid (D115.out.step hbv128)
  have D142 := Lib.hid (D116.out.step hbv128)
  have R143 := Lib.hid (R117.out.step hbv128)
  have B144 := Lib.hid (B118.out.trans (hbv128.mono B118.out.size))
  have D133 := Lib.hid hd
  clear hd hbv128
  go_wp2_with fail
  obtain ⟨X145, hX145⟩ : ∃ X, X = v128.alloc (.cells #[.slice A129 x.secs.length c130, .slice A131 x.pend.length c132, .int .i64 x.left, .bool x.down] 25) := ⟨_, rfl⟩
  have bX145 : Below v128.heap.size v128 X145 := by rw [hX145]; exact (Below.refl _ _).alloc (Nat.le_refl _) _
  have K146 := Lib.hid (blk_call K134.out bX145)
  have K147 := Lib.hid (blk_call K135.out bX145)
  have K148 := Lib.hid (blk_call K136.out bX145)
  have K149 := Lib.hid (blk_call K137.out bX145)
  have K150 := Lib.hid (blk_call K138.out bX145)
  have D151 := Lib.hid (D139.out.step bX145)
  have D152 := Lib.hid (D140.out.step bX145)
  have D153 := Lib.hid (D141.out.step bX145)
  have D154 := Lib.hid (D142.out.step bX145)
  have D155 := Lib.hid (D133.out.step bX145)
  have R156 := Lib.hid (R143.out.step bX145)
  have B157 := Lib.hid (B144.out.trans (bX145.mono B144.out.size))
  have K158 := Lib.hid (show X145.heap[v128.heap.size]? = some (.cells #[.slice A129 x.secs.length c130, .slice A131 x.pend.length c132, .int .i64 x.left, .bool x.down] 25 (0, 0)) by rw [hX145]; exact blk_new _ _)
  rw [← hX145]
  clear hX145
  refine (HC2.out A129 c130 A131 c132 _ D155.out).mono ?_
  rintro e v159 ⟨A160, c161, rfl, hd, hbv159⟩
  have K163 := Lib.hid (blk_call K146.out hbv159)
  have K164 := Lib.hid (blk_call K147.out hbv159)
  have K165 := Lib.hid (blk_call K148.out hbv159)
  have K166 := Lib.hid (blk_call K149.out hbv159)
  have K167 := Lib.hid (blk_call K150.out hbv159)
  have K168 := Lib.hid (blk_call K158.out hbv159)
  have D169 := Lib.hid (D151.out.step hbv159)
  have D170 := Lib.hid (D152.out.step hbv159)
  have D171 := Lib.hid (D153.out.step hbv159)
  have D172 := Lib.hid (D154.out.step hbv159)
  have D173 := Lib.hid (D155.out.step hbv159)
  have R174 := Lib.hid (R156.out.step hbv159)
  have B175 := Lib.hid (B157.out.trans (hbv159.mono B157.out.size))
  have R162 := Lib.hid hd
  clear hd hbv159
  obtain ⟨⟨a176, a177, a178, a179⟩, a180, a181, a182, a183⟩ := blk4 K166.out
  obtain ⟨⟨a184, a185, a186, a187⟩, a188, a189, a190, a191⟩ := blk4 K165.out
  have hgl' := hgl.out
  have hwl' := hwl.out
  go_wp2_with fail
  clear a176 a177 a178 a179 a180 a181 a182 a183 a184 a185 a186 a187 a188 a189 a190 a191
  refine (HK.out A45 c46 A47 c48 _ D171.out).mono ?_
  rintro e v192 ⟨rfl, hbv192⟩
  have K193 := Lib.hid (blk_call K163.out hbv192)
  have K194 := Lib.hid (blk_call K164.out hbv192)
  have K195 := Lib.hid (blk_call K165.out hbv192)
  have K196 := Lib.hid (blk_call K166.out hbv192)
  have K197 := Lib.hid (blk_call K167.out hbv192)
  have K198 := Lib.hid (blk_call K168.out hbv192)
  have D199 := Lib.hid (D169.out.step hbv192)
  have D200 := Lib.hid (D170.out.step hbv192)
  have D201 := Lib.hid (D171.out.step hbv192)
  have D202 := Lib.hid (D172.out.step hbv192)
  have D203 := Lib.hid (D173.out.step hbv192)
  have R204 := Lib.hid (R174.out.step hbv192)
  have R205 := Lib.hid (R162.out.step hbv192)
  have B206 := Lib.hid (B175.out.trans (hbv192.mono B175.out.size))
  clear hbv192
  obtain ⟨⟨a207, a208, a209, a210⟩, a211, a212, a213, a214⟩ := blk4 K193.out
  have l215 := blk_lt K193.out
  obtain ⟨b0, o0, rfl, hb0, hc0⟩ := D199.out.pend.open_ (by omega)
  obtain ⟨p1, p2⟩ := pend_at hc0 HX.out
  clear hc0
  go_upto_region 17 with fail
  obtain ⟨v0, hv0⟩ : ∃ v0, v0 = v192.alloc (.cells #[.int .i64 wx.at_, .string wx.text] 44) := ⟨_, rfl⟩
  have bv : Below v192.heap.size v192 v0 := by rw [hv0]; exact (Below.refl _ _).alloc (Nat.le_refl _) _
  have F1 := Lib.hid (R204.out.step bv)
  have F2 := Lib.hid (R205.out.step bv)
  have FB := Lib.hid (B206.out.trans (bv.mono B206.out.size))
  have KX : v0.heap[v192.heap.size]? = some (.cells #[.int .i64 wx.at_, .string wx.text] 44 (0, 0)) := by rw [hv0]; exact blk_new _ _
  obtain ⟨⟨x0, x1⟩, x2, x3⟩ := blk2 KX
  rw [← hv0]
  clear hv0 bv KX p1 p2
  clear a207 a208 a209 a210 a211 a212 a213 a214
  go_wp2_with fail
  go_loopw [21] (fun i wr => ∃ (j q : Nat), i = .int .i64 j ∧ j ≤ d.secs.length ∧ wr = v0.drewN q) (fun i _ => d.secs.length - (intOf i).toNat)
  case atStart => exact ⟨0, 0, rfl, by omega, rfl⟩
  case round =>
    obtain ⟨j, q, rfl, hj, rfl⟩ := hrel
    by_cases hlt : j < d.secs.length
    · obtain ⟨gs, ws, e1, e2, e3, e4, e5⟩ := HG.out j hlt
      obtain ⟨b1, o1, rfl, hb1, hc1⟩ := F1.out.open_ (by rw [hgl.out]; omega)
      obtain ⟨b2, o2, rfl, hb2, hc2⟩ := F2.out.open_ (by rw [hwl.out]; omega)
      have q1 := secs_at hc1 e1
      have q2 := secs_at hc2 e2
      have HE := Lib.hid e5
      clear hc1 hc2 e1 e2 e5
      go_wp2_with fail
      go_loopw [22] (fun i wr => ∃ (k q : Nat), i = .int .i64 k ∧ k ≤ 16 ∧ wr = v0.drewN q) (fun i _ => 16 - (intOf i).toNat)
      case atStart => exact ⟨0, q, rfl, by omega, rfl⟩
      case round =>
        obtain ⟨k, q2', rfl, hk2, rfl⟩ := hrel
        by_cases hlt2 : k < 16
        · have h1 : k < gs.size := by omega
          have h2 : k < ws.size := by omega
          have h3 : k < wx.text.size := by omega
          obtain ⟨g1', g2'⟩ := HE.out k h1 h2 h3
          by_cases c1 : (j : Int) = wx.at_
          · have t1 : ((j : Int) == wx.at_) = true := by simpa using c1
            by_cases c2 : k < 8
            · have te := g1' ⟨c1, c2⟩
              have tk : decide ((k : Int) < 8) = true := by simp; omega
              have tx : ((((gs[k]'h1).toNat : Nat) : Int) != (((wx.text[k]'h3).toNat : Nat) : Int)) = false := by rw [te]; simp
              clear te g1' g2' c1
              go_wp2_with fail
              go_quiet (fail)
              go_wp2_with fail
              go_roundw
              case rel => exact ⟨k + 1, q2' + nq, by go_num, by omega, rfl⟩
              case measure => simp [intOf]; omega
            · have te := g2' (fun h => c2 h.2)
              have tk : decide ((k : Int) < 8) = false := by simp; omega
              have tx : ((((gs[k]'h1).toNat : Nat) : Int) != (((ws[k]'h2).toNat : Nat) : Int)) = false := by rw [te]; simp
              clear te g1' g2' c1
              go_wp2_with fail
              go_quiet (fail)
              go_wp2_with fail
              go_roundw
              case rel => exact ⟨k + 1, q2' + nq, by go_num, by omega, rfl⟩
              case measure => simp [intOf]; omega
          · have t1 : ((j : Int) == wx.at_) = false := by simpa using c1
            have te := g2' (fun h => c1 h.1)
            have tx : ((((gs[k]'h1).toNat : Nat) : Int) != (((ws[k]'h2).toNat : Nat) : Int)) = false := by rw [te]; simp
            clear te g1' g2' c1
            go_wp2_with fail
            go_quiet (fail)
            go_wp2_with fail
            go_roundw
            case rel => exact ⟨k + 1, q2' + nq, by go_num, by omega, rfl⟩
            case measure => simp [intOf]; omega
        · obtain rfl : k = 16 := by omega
          go_wp2_with fail
          go_roundw
          case rel => exact ⟨j + 1, q2', by go_num, by omega, rfl⟩
          case measure => simp [intOf]; omega
    · obtain rfl : j = d.secs.length := by omega
      go_wp2_with fail
      go_ret
      exact ⟨rfl, below_drewN FB.out _⟩

end Go.Proofs.Ytlfiooenbgegkaa
