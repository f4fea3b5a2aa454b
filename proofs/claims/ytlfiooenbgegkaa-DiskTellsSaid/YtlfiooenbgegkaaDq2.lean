/- The reference's Flush that is cut, walked. -/
import Derived.Test.YtlfiooenbgegkaaDq
namespace Go.Proofs.Ytlfiooenbgegkaa
open Go.RowKit Ds
set_option linter.unusedSimpArgs false
set_option linter.unusedVariables false

set_option maxHeartbeats 4000000 in
theorem rflush_cut (A : Option Addr) (c : Nat) (A' : Option Addr) (c' : Nat) (d : Dk) (w : World) (h : DiskAt w w.heap.size A c A' c' d) (hu : upE d = 0) (ha : allB d = false) :
    Calls Try.prog 20 #[dv A c A' c' d] w (DiskEnd w (torn d) 8) := by
  have HU := Lib.hid (fun wx (hx : Below w.heap.size w wx) => by have := rup_any A c A' c' d wx (h.step hx); rw [hu] at this; exact this)
  have hr := (upE_zero.1 hu).1
  obtain ⟨a1, a2, a3, a4, a5⟩ := right_head hr
  have HD := Lib.hid h
  have HS16 := Lib.hid (secs16 hr)
  have HW0 := Lib.hid (fun (x : Wr) (hx : x ∈ d.pend) => right_wr hr hx)
  simp only [allB, Bool.or_eq_false_iff, decide_eq_false_iff_not] at ha
  obtain ⟨kn, hkl⟩ : ∃ n : Nat, d.left = n := ⟨d.left.toNat, by omega⟩
  have hkn : kn < d.pend.length := by omega
  have HS := Lib.hid (fun wx (hx : Below w.heap.size w wx) => rsectors_any A c A' c' d kn wx (h.step hx) hr (by omega))
  obtain ⟨l, p, left, down⟩ := d
  obtain rfl : left = kn := hkl
  obtain ⟨x, hx⟩ : ∃ x, p[kn]? = some x := ⟨_, List.getElem?_eq_getElem hkn⟩
  obtain ⟨w0, w1', w2'⟩ := HW0.out x (List.mem_of_getElem? hx)
  obtain ⟨q, hq⟩ : ∃ q : Nat, x.at_ = q := ⟨x.at_.toNat, by omega⟩
  have hql : q < l.length := by simp only at w1'; omega
  obtain ⟨s, hs⟩ : ∃ s, (puts l (p.take kn))[q]? = some s := ⟨_, List.getElem?_eq_getElem (by rw [puts_len]; exact hql)⟩
  have hss : s.size = 16 := puts16 (p.take kn) l HS16.out (fun y hy => (HW0.out y (List.mem_of_mem_take hy)).2.2) s (List.mem_of_getElem? hs)
  have htear : torn ⟨l, p, kn, down⟩ = ⟨(puts l (p.take kn)).set q (half x.text s), [], -1, true⟩ := by
    unfold torn tear
    simp only [Int.toNat_natCast]
    rw [show p.getD kn ⟨0, ByteArray.empty⟩ = x by simp [List.getD, hx], hq]
    simp [List.getD, hs]
  have HT := Lib.hid htear
  have HX := Lib.hid hx
  have HQ := Lib.hid hq
  have HSX := Lib.hid hs
  have htx : x.text.size = 16 := w2'
  have HPL := Lib.hid (puts_len (p.take kn) l)
  clear h hu hr ha w0 w1' w2' hx hq hs htear HS16 HW0
  unfold dv dcells at *
  simp only at *
  have hjp : (kn : Int) < (p.length : Int) := by omega
  have hjd : decide (kn < p.length) = true := by simpa using hkn
  go_enter Try.func20, Try.ntmps20
  go_wp2_with fail
  refine (HU.out _ (by repeat first | with_reducible exact Below.refl _ _ | refine Below.alloc ?_ (by simp <;> omega) _)).mono ?_
  rintro e w1 ⟨rfl, b1⟩
  obtain ⟨⟨k1, k2⟩, hb, hz⟩ := boxes2 b1 (by simp)
  have K1 := Lib.hid k1
  have K2 := Lib.hid k2
  have HB := Lib.hid hb
  obtain ⟨⟨b0, b1', b2, b3⟩, f0, f1, f2, f3⟩ := blk4 k1
  clear k1 k2 b1 hb
  go_wp2_with fail
  refine (HS.out _ HB.out).mono ?_
  rintro e w2 ⟨g, c2, rfl, ho⟩
  have HO := Lib.hid (owns_base ho HB.out)
  have L1 := Lib.hid (blk_call K1.out ho.2.1)
  have L2 := Lib.hid (blk_call K2.out ho.2.1)
  have hg1 : w1.heap.size ≤ g := own_ge' ho.1 rfl
  have hg2 : g < w2.heap.size := (ho.1.lt g rfl).2
  have hlt1 := blk_lt L1.out
  obtain ⟨b, off, rfl, hb0, hc0⟩ := (HD.out.step HO.out.2.1).pend.open_ (by simp only; omega)
  obtain ⟨d1, d2⟩ := pend_at hc0 HX.out
  rw [HQ.out] at d1
  clear ho b0 b1' b2 b3 f0 f1 f2 f3 hc0
  obtain ⟨⟨b0, b1', b2, b3⟩, f0, f1, f2, f3⟩ := blk4 L1.out
  obtain ⟨X, hX⟩ : ∃ X, X = w2.alloc (.cells #[.int .i64 (q : Nat), .string x.text] 44) := ⟨_, rfl⟩
  have M2 := Lib.hid (show X.heap[w.heap.size + 1]? = some (.cells #[.slice none 0 0, .slice none 0 0, .int .i64 0, .bool false] 25 (0, 0)) by rw [hX]; exact blk_old L2.out)
  have hx4 : X.heap[w2.heap.size]? = some (.cells #[.int .i64 (q : Nat), .string x.text] 44 (0, 0)) := by rw [hX]; exact blk_new _ _
  have HO2 := Lib.hid (show OwnS w X _ _ by rw [hX]; exact Own.alloc HO.out _)
  go_upto_region 8 with fail
  rw [← hX]
  clear hX b0 b1' b2 b3 f0 f1 f2 f3 d1 d2
  obtain ⟨⟨h0, h1⟩, h2, h3⟩ := blk2 hx4
  obtain ⟨⟨sq, d3⟩, d4⟩ := owns_at HO2.out (i := q) (by rw [puts_len]; exact hql)
  have hsq : sq = s := by
    have := HO2.out
    have e := owns_cell this HSX.out
    rw [d3] at e
    injection e with e; injection e
  subst hsq
  clear hx4
  go_cut [] (fun wc => Hid (wc.heap[w.heap.size + 1]? = some (.cells #[.slice none 0 0, .slice none 0 0, .int .i64 0, .bool false] 25 (0, 0))) ∧ Hid (OwnS w wc (.slice (some ⟨g, 0, none⟩) l.length c2) ((puts l (p.take kn)).set q (half x.text sq))))
  case first =>
    go_region
    all_goals
      go_wp2_with fail
      go_meet
      have hf := owns_put HO2.out q (half x.text sq)
      unfold half at hf ⊢
      rw [hss] at hf ⊢
      exact ⟨Lib.hid (blk_other M2.out (by simp only; omega)), Lib.hid hf.drew⟩
  case rest =>
    obtain ⟨R2, R3⟩ := hcut
    obtain ⟨⟨s0, s1, s2, s3⟩, sf0, sf1, sf2, sf3⟩ := blk4 R2.out
    clear h0 h1 h2 h3 d3 d4
    go_wp2_with fail
    refine bodyPost_ret (v := .tuple #[.agg #[.slice (some ⟨g, 0, none⟩) l.length c2, .slice none 0 0, .int .i64 (-1), .bool true], .int .i64 8]) (by simp [results, Try.results20, go_sem, *]) rfl ?_
    rw [HT.out]
    have HV2 := R3.out
    have hO : OwnS w ((((wc.setCell ⟨w.heap.size + 1, 0, none⟩ (.slice (some ⟨g, 0, none⟩) l.length c2)).setCell ⟨w.heap.size + 1, 1, none⟩ (.slice none 0 0)).setCell ⟨w.heap.size + 1, 2, none⟩ (.int .i64 (-1))).setCell ⟨w.heap.size + 1, 3, none⟩ (.bool true)) (.slice (some ⟨g, 0, none⟩) l.length c2) ((puts l (p.take kn)).set q (half x.text sq)) :=
      (((Own.setCell (p := ⟨w.heap.size + 1, 0, none⟩) HV2 (by simp only; omega) (by simp only [Value.ownBlock]; intro e; injection e with e; omega) (.slice (some ⟨g, 0, none⟩) l.length c2)).setCell (p := ⟨w.heap.size + 1, 1, none⟩) (by simp only; omega) (by simp only [Value.ownBlock]; intro e; injection e with e; omega) (.slice none 0 0)).setCell (p := ⟨w.heap.size + 1, 2, none⟩) (by simp only; omega) (by simp only [Value.ownBlock]; intro e; injection e with e; omega) (.int .i64 (-1))).setCell (p := ⟨w.heap.size + 1, 3, none⟩) (by simp only; omega) (by simp only [Value.ownBlock]; intro e; injection e with e; omega) (.bool true)
    have hL := HPL.out
    exact ⟨some ⟨g, 0, none⟩, c2, none, 0, by simp [dv, dcells, hL], ⟨owns_row' hO, RowOf.nil, by simp [hL]; omega, by simp, by simp⟩, hO.2.1⟩

theorem rflush_any (A : Option Addr) (c : Nat) (A' : Option Addr) (c' : Nat) (d : Dk) (w : World) (h : DiskAt w w.heap.size A c A' c' d) :
    Calls Try.prog 20 #[dv A c A' c' d] w (DiskEnd w (flushD d) (flushE d)) := by
  have HU := Lib.hid (fun wx (hx : Below w.heap.size w wx) => rup_any A c A' c' d wx (h.step hx))
  by_cases hu : upE d = 0
  · cases ha : allB d with
    | true =>
      rw [(flush_ok hu ha).1, (flush_ok hu ha).2]
      exact rflush_good A c A' c' d w h hu ha
    | false =>
      rw [(flush_tears hu ha).1, (flush_tears hu ha).2]
      exact rflush_cut A c A' c' d w h hu ha
  · have e1 : flushE d = upE d := by unfold flushE; rw [if_neg hu]
    have e2 : flushD d = nilD := by unfold flushD; rw [if_neg hu]
    rw [e1, e2]
    exact rflush_bad A _ c A' _ c' d.left d.down _ w HU hu

end Go.Proofs.Ytlfiooenbgegkaa
