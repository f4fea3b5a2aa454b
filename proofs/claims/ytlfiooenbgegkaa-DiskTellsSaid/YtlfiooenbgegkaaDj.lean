/- Flush, walked: a flush that is cut. -/
import Derived.Test.YtlfiooenbgegkaaDi
namespace Go.Proofs.Ytlfiooenbgegkaa
open Go.RowKit Ds
set_option linter.unusedSimpArgs false
set_option linter.unusedVariables false

set_option maxHeartbeats 4000000 in
theorem flush_cut (A : Option Addr) (c : Nat) (A' : Option Addr) (c' : Nat) (d : Dk) (w : World) (h : DiskAt w w.heap.size A c A' c' d) (hu : upE d = 0) (ha : allB d = false) :
    Calls Try.prog 19 #[dv A c A' c' d] w (DiskEnd w (torn d) 8) := by
  have HU := Lib.hid (fun wx (hx : Below w.heap.size w wx) => by have := up_any A c A' c' d wx (h.step hx); rw [hu] at this; exact this)
  have hr := (upE_zero.1 hu).1
  have hdn := (upE_zero.1 hu).2
  have hl1 := (right_head hr).2.1
  have hl2 := (right_head hr).2.2.1
  have hl3 := (right_head hr).2.2.2.1
  have hl4 := (right_head hr).2.2.2.2
  have HF := Lib.hid (fun wx (hx : Below w.heap.size w wx) => fresh_any A c A' c' d wx (h.step hx) hl1 hl2)
  have HS16 := Lib.hid (secs16 hr)
  have HW0 := Lib.hid (fun (x : Wr) (hx : x ∈ d.pend) => right_wr hr hx)
  simp only [allB, Bool.or_eq_false_iff, decide_eq_false_iff_not] at ha
  obtain ⟨l, p, left, down⟩ := d
  unfold dv dcells at *
  simp only at *
  clear h hu hr
  subst hdn
  obtain ⟨m, hm⟩ : ∃ m, m = p.length := ⟨_, rfl⟩
  obtain ⟨n0, rfl⟩ : ∃ n : Nat, left = n := ⟨left.toNat, by omega⟩
  have hn0 : n0 < m := by omega
  have hlm : ((n0 : Int) == -1) = false := by simp
  have hdm : decide (m ≤ n0) = false := by simp; omega
  go_enter Try.func19, Try.ntmps19
  go_wp2_with fail
  refine (HU.out _ (by repeat first | with_reducible exact Below.refl _ _ | refine Below.alloc ?_ (by simp <;> omega) _)).mono ?_
  rintro e w1 ⟨rfl, b1⟩
  obtain ⟨⟨k1, k2⟩, hb, hz⟩ := boxes2 b1 (by simp)
  obtain ⟨⟨a0, a1, a2, a3⟩, f0, f1, f2, f3⟩ := blk4 k1
  have K1 := Lib.hid k1
  have K2 := Lib.hid k2
  have HB := Lib.hid hb
  clear k1 k2 b1 hb
  go_wp2_with fail
  refine (HF.out _ HB.out).mono ?_
  rintro e w2 ⟨g, A2, c2, rfl, hf⟩
  have L1 := Lib.hid (blk_call K1.out hf.2.2.1.2.1)
  have L2 := Lib.hid (blk_call K2.out hf.2.2.1.2.1)
  have HN1 := Lib.hid (fresh_ne hf (k := w.heap.size) (by omega))
  have HN2 := Lib.hid (fresh_ne hf (k := w.heap.size + 1) (by omega))
  have H2 := Lib.hid (fresh_base hf HB.out)
  have hgz : w.heap.size + 1 + 1 ≤ g := Nat.le_trans hz hf.1
  clear a0 a1 a2 a3 f0 f1 f2 f3 hf
  obtain ⟨⟨b0, b1, b2, b3⟩, f0, f1, f2, f3⟩ := blk4 L1.out
  obtain ⟨W3, hW3⟩ : ∃ W3, W3 = ((((w2.setCell ⟨w.heap.size, 0, none⟩ (.slice (some ⟨g, 0, none⟩) l.length l.length)).setCell ⟨w.heap.size, 1, none⟩ (.slice A2 p.length c2)).setCell ⟨w.heap.size, 2, none⟩ (.int .i64 n0)).setCell ⟨w.heap.size, 3, none⟩ (.bool false)) := ⟨_, rfl⟩
  have H3 := Lib.hid (show FlushAt w W3 g A2 c2 ⟨l, p, n0, false⟩ 0 from ⟨by rw [hW3]; exact set4 L1.out, by rw [hW3]; exact blk_other (blk_other (blk_other (blk_other L2.out (by simp)) (by simp)) (by simp)) (by simp), hgz, by
    rw [hW3]; exact ((((H2.out.set (p := ⟨w.heap.size, 0, none⟩) (Nat.le_refl _) HN1.out.2 HN1.out.1 (.slice (some ⟨g, 0, none⟩) l.length l.length)).set (p := ⟨w.heap.size, 1, none⟩) (Nat.le_refl _) HN1.out.2 HN1.out.1 (.slice A2 p.length c2)).set (p := ⟨w.heap.size, 2, none⟩) (Nat.le_refl _) HN1.out.2 HN1.out.1 (.int .i64 n0)).set (p := ⟨w.heap.size, 3, none⟩) (Nat.le_refl _) HN1.out.2 HN1.out.1 (.bool false))⟩)
  have HW := Lib.hid hW3
  clear hW3
  go_upto_region 5 with fail
  rw [← HW.out]
  clear b0 b1 b2 b3 f0 f1 f2 f3
  obtain ⟨⟨b0, b1, b2, b3⟩, f0, f1, f2, f3⟩ := blk4 H3.out.1
  have hcp : p.length ≤ c2 := H3.out.2.2.2.2.2.1.lt
  have HM := Lib.hid hm
  clear hm ha
  have hm5 : m ≤ 512 := by rw [HM.out]; exact hl2
  have hcm : m ≤ c2 := by rw [HM.out]; exact hcp
  have hpm : p.length = m := HM.out.symm
  simp only [hpm] at b1 b2 b3
  clear hpm
  go_wp2_with fail
  go_loopw [39] (fun i wr => ∃ j : Nat, i = .int .i64 j ∧ j ≤ n0 ∧ Hid (FlushAt w wr g A2 c2 ⟨l, p, n0, false⟩ j)) (fun i _ => m - (intOf i).toNat)
  case atStart => exact ⟨0, rfl, by omega, H3⟩
  case round =>
    obtain ⟨j, rfl, hj, HJ⟩ := hrel
    by_cases hlt : j < n0
    · obtain ⟨x, hx⟩ : ∃ x, p[j]? = some x := ⟨_, List.getElem?_eq_getElem (by rw [← HM.out]; omega)⟩
      obtain ⟨w0, w1', w2'⟩ := HW0.out x (List.mem_of_getElem? hx)
      obtain ⟨q, hq⟩ : ∃ q : Nat, x.at_ = q := ⟨x.at_.toNat, by omega⟩
      have hql : q < l.length := by omega
      obtain ⟨s, hs⟩ : ∃ s, (puts l (p.take j))[q]? = some s := ⟨_, List.getElem?_eq_getElem (by rw [puts_len]; exact hql)⟩
      obtain ⟨b, off, rfl, hb, hcell⟩ := (fresh_pend HJ.out.2.2.2).open_ (by show 0 < p.length; rw [← HM.out]; omega)
      obtain ⟨d1, d2⟩ := pend_at hcell hx
      obtain ⟨d3, d4, d5⟩ := fresh_sec HJ.out.2.2.2 hs
      obtain ⟨⟨e0, e1, e2, e3⟩, e4, e5, e6, e7⟩ := blk4 HJ.out.1
      have HN := Lib.hid ((HJ.out.put hx q hq).alloc (.cells #[.int .i64 x.at_, .string x.text] 44))
      have hlt0 := blk_lt HJ.out.1
      rw [hq] at d1 HN
      clear hcell hx hs w0 w1' w2' hq e1 e2 e3 e5 e6 e7
      go_wp2_with fail
      go_roundw
      case rel => exact ⟨j + 1, by go_num, by omega, HN⟩
      case measure => simp [intOf]; omega
    · obtain rfl : n0 = j := by omega
      obtain ⟨x, hx⟩ : ∃ x, p[n0]? = some x := ⟨_, List.getElem?_eq_getElem (by rw [← HM.out]; exact hn0)⟩
      obtain ⟨w0, w1', w2'⟩ := HW0.out x (List.mem_of_getElem? hx)
      obtain ⟨q, hq⟩ : ∃ q : Nat, x.at_ = q := ⟨x.at_.toNat, by omega⟩
      have hql : q < l.length := by omega
      obtain ⟨s, hs⟩ : ∃ s, (puts l (p.take n0))[q]? = some s := ⟨_, List.getElem?_eq_getElem (by rw [puts_len]; exact hql)⟩
      obtain ⟨b, off, rfl, hb, hcell⟩ := (fresh_pend HJ.out.2.2.2).open_ (by show 0 < p.length; rw [← HM.out]; omega)
      obtain ⟨d1, d2⟩ := pend_at hcell hx
      obtain ⟨d3, d4, d5⟩ := fresh_sec HJ.out.2.2.2 hs
      obtain ⟨⟨e0, e1, e2, e3⟩, e4, e5, e6, e7⟩ := blk4 HJ.out.1
      have HN := Lib.hid (HJ.out.alloc (.cells #[.int .i64 x.at_, .string x.text] 44))
      have hlt0 := blk_lt HJ.out.1
      simp only [← HM.out] at e1
      have hss : s.size = 16 := puts16 (p.take n0) l HS16.out (fun y hy => (HW0.out y (List.mem_of_mem_take hy)).2.2) s (List.mem_of_getElem? hs)
      have htear : tear (puts l (p.take n0)) x = (puts l (p.take n0)).set q (half x.text s) := by
        unfold tear; rw [hq]; simp [List.getD, hs]
      have HT := Lib.hid htear
      have HSX := Lib.hid hs
      have HXX := Lib.hid hx
      have HQ := Lib.hid hq
      rw [hq] at d1 HN
      have htx : x.text.size = 16 := w2'
      clear hcell hx hs w0 w1' w2' hq htear
      go_upto_region 16 with fail
      obtain ⟨W4, hW4⟩ : ∃ W4, W4 = wr.alloc (.cells #[.int .i64 q, .string x.text] 44) := ⟨_, rfl⟩
      rw [← hW4] at HN ⊢
      have hx4 : W4.heap[wr.heap.size]? = some (.cells #[.int .i64 q, .string x.text] 44 (0, 0)) := by rw [hW4]; exact blk_new _ _
      obtain ⟨⟨h0, h1⟩, h2, h3⟩ := blk2 hx4
      clear hW4 hx4 d1 d2 d3 d4 d5 e0 e1 e2 e3 e4 e5 e6 e7 b0 b1 b2 b3 f0 f1 f2 f3
      obtain ⟨d3, d4, d5⟩ := fresh_sec HN.out.2.2.2 HSX.out
      obtain ⟨⟨e0, e1, e2, e3⟩, e4, e5, e6, e7⟩ := blk4 HN.out.1
      go_cut [] (fun wc => Hid (wc.heap[w.heap.size]? = some (.cells #[.slice (some ⟨g, 0, none⟩) l.length l.length, .slice (some ⟨b, off, none⟩) p.length c2, .int .i64 n0, .bool false] 25 (0, 0))) ∧
        Hid (wc.heap[w.heap.size + 1]? = some (.cells #[.slice none 0 0, .slice none 0 0, .int .i64 0, .bool false] 25 (0, 0))) ∧ Hid (FreshAt w wc g (some ⟨b, off, none⟩) c2 ⟨(puts l (p.take n0)).set q (half x.text s), p, n0, false⟩))
      case first =>
        go_region
        all_goals
          go_wp2_with fail
          go_meet
          have hf := fresh_put HN.out.2.2.2 q (half x.text s)
          unfold half at hf ⊢
          rw [hss] at hf ⊢
          have hg := HN.out.2.2.1
          exact ⟨Lib.hid (blk_other HN.out.1 (by simp only; omega)), Lib.hid (blk_other HN.out.2.1 (by simp only; omega)), Lib.hid ⟨hf.1, hf.2.1, hf.2.2.1.below (by exact (Below.refl _ _).drew), hf.2.2.2⟩⟩
      case rest =>
        obtain ⟨R1, R2, R3⟩ := hcut
        clear d3 d4 e0 e1 e2 e3 e4 e5 e6 e7 h0 h1 h2 h3
        obtain ⟨⟨e0, e1, e2, e3⟩, e4, e5, e6, e7⟩ := blk4 R1.out
        have HO := Lib.hid (off_any (some ⟨g, 0, none⟩) l.length (some ⟨b, off, none⟩) c2 ⟨(puts l (p.take n0)).set q (half x.text s), p, n0, false⟩ wc)
        unfold dv dcells offD at HO
        simp only [List.length_set, puts_len] at HO
        go_wp2_with fail
        refine HO.out.mono ?_
        rintro e w5 ⟨rfl, b5⟩
        have M2 := Lib.hid (blk_call R2.out b5)
        have HS := Lib.hid (blk_call R3.out.2.1 b5)
        have HB3 := Lib.hid (R3.out.2.2.1.2.1.trans (b5.mono R3.out.2.2.1.2.1.size))
        have hg := HN.out.2.2.1
        have hev : torn ⟨l, p, n0, false⟩ = ⟨(puts l (p.take n0)).set q (half x.text s), [], -1, true⟩ := by
          unfold torn
          simp only [Int.toNat_natCast]
          rw [show p.getD n0 ⟨0, ByteArray.empty⟩ = x by simp [List.getD, HXX.out], HT.out]
        have HEV := Lib.hid hev
        clear b5 hev e0 e1 e2 e3 e4 e5 e6 e7
        obtain ⟨⟨s0, s1, s2, s3⟩, sf0, sf1, sf2, sf3⟩ := blk4 M2.out
        go_wp2_with fail
        refine bodyPost_ret (v := .tuple #[.agg #[.slice (some ⟨g, 0, none⟩) l.length l.length, .slice none 0 0, .int .i64 (-1), .bool true], .int .i64 8]) (by simp [results, Try.results19, go_sem, *]) rfl ?_
        rw [HEV.out]
        have R5 : w5.heap[g]? = some (.cells (scells ((puts l (p.take n0)).set q (half x.text s))).toArray 9 (0, 0)) := HS.out
        have R6 : Below w.heap.size w w5 := HB3.out
        have hS : ((((w5.setCell ⟨w.heap.size + 1, 0, none⟩ (.slice (some ⟨g, 0, none⟩) l.length l.length)).setCell ⟨w.heap.size + 1, 1, none⟩ (.slice none 0 0)).setCell ⟨w.heap.size + 1, 2, none⟩ (.int .i64 (-1))).setCell ⟨w.heap.size + 1, 3, none⟩ (.bool true)).heap[g]? = some (.cells (scells ((puts l (p.take n0)).set q (half x.text s))).toArray 9 (0, 0)) := by
          repeat first | with_reducible exact R5 | refine blk_other ?_ (by simp only; omega)
        have hBB : Below w.heap.size w ((((w5.setCell ⟨w.heap.size + 1, 0, none⟩ (.slice (some ⟨g, 0, none⟩) l.length l.length)).setCell ⟨w.heap.size + 1, 1, none⟩ (.slice none 0 0)).setCell ⟨w.heap.size + 1, 2, none⟩ (.int .i64 (-1))).setCell ⟨w.heap.size + 1, 3, none⟩ (.bool true)) := by
          repeat first | with_reducible exact R6 | refine Below.setCell ?_ (by simp only; omega) _
        exact ⟨some ⟨g, 0, none⟩, l.length, none, 0, by simp [dv, dcells, puts_len], ⟨fresh_secs (w := w) hS, RowOf.nil, by simp [puts_len]; omega, by simp, by simp⟩, hBB⟩

theorem flush_any (A : Option Addr) (c : Nat) (A' : Option Addr) (c' : Nat) (d : Dk) (w : World) (h : DiskAt w w.heap.size A c A' c' d) :
    Calls Try.prog 19 #[dv A c A' c' d] w (DiskEnd w (flushD d) (flushE d)) := by
  have HU := Lib.hid (fun wx (hx : Below w.heap.size w wx) => up_any A c A' c' d wx (h.step hx))
  by_cases hu : upE d = 0
  · cases ha : allB d with
    | true =>
      rw [(flush_ok hu ha).1, (flush_ok hu ha).2]
      exact flush_good A c A' c' d w h hu ha
    | false =>
      rw [(flush_tears hu ha).1, (flush_tears hu ha).2]
      exact flush_cut A c A' c' d w h hu ha
  · have e1 : flushE d = upE d := by unfold flushE; rw [if_neg hu]
    have e2 : flushD d = nilD := by unfold flushD; rw [if_neg hu]
    rw [e1, e2]
    exact flush_bad A _ c A' _ c' d.left d.down _ w HU hu

end Go.Proofs.Ytlfiooenbgegkaa
