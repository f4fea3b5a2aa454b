/- Flush, walked: the head, and a flush of all writes. -/
import Derived.Test.YtlfiooenbgegkaaDh
namespace Go.Proofs.Ytlfiooenbgegkaa
open Go.RowKit Ds
set_option linter.unusedSimpArgs false
set_option linter.unusedVariables false

theorem flush_bad (A : Option Addr) (n c : Nat) (A' : Option Addr) (n' c' : Nat) (left : Int) (down : Bool) (er : Int) (w : World) (HU : Hid (UpGives A n c A' n' c' left down er w)) (h : er ≠ 0) :
    Calls Try.prog 19 #[.agg #[.slice A n c, .slice A' n' c', .int .i64 left, .bool down]] w (DiskEnd w nilD er) := by
  have t1 : (er != 0) = true := by simpa using h
  clear h
  go_enter Try.func19, Try.ntmps19
  go_wp2_with fail
  refine (HU.out _ (by repeat first | with_reducible exact Below.refl _ _ | refine Below.alloc ?_ (by simp <;> omega) _)).mono ?_
  rintro e w1 ⟨rfl, b1⟩
  obtain ⟨⟨k1, k2⟩, hb, hz⟩ := boxes2 b1 (by simp)
  obtain ⟨⟨a0, a1, a2, a3⟩, f0, f1, f2, f3⟩ := blk4 k2
  have HB := Lib.hid hb
  clear k1 k2 b1 hb
  go_wp2_with fail
  refine bodyPost_ret (v := .tuple #[dv none 0 none 0 nilD, .int .i64 er]) (by simp [results, Try.results19, go_sem, dv, dcells, nilD, *]) rfl (DiskEnd.none_ ?_)
  repeat first | with_reducible exact HB.out | refine Below.setCell ?_ (by simp only; omega) _

/-- the state while a flush goes on: the first j writes are performed -/
def FlushAt (w wr : World) (g : Nat) (A2 : Option Addr) (c2 : Nat) (d : Dk) (j : Nat) : Prop :=
  wr.heap[w.heap.size]? = some (.cells #[.slice (some ⟨g, 0, none⟩) d.secs.length d.secs.length, .slice A2 d.pend.length c2, .int .i64 d.left, .bool d.down] 25 (0, 0)) ∧
  wr.heap[w.heap.size + 1]? = some (.cells #[.slice none 0 0, .slice none 0 0, .int .i64 0, .bool false] 25 (0, 0)) ∧
  w.heap.size + 1 + 1 ≤ g ∧ FreshAt w wr g A2 c2 ⟨puts d.secs (d.pend.take j), d.pend, d.left, d.down⟩
section
variable {w wr : World} {g : Nat} {A2 : Option Addr} {c2 : Nat} {d : Dk} {j : Nat}
theorem FreshAt.alloc (h : FreshAt w wr g A2 c2 d) (o : Obj) : FreshAt w (wr.alloc o) g A2 c2 d := ⟨h.1, blk_old h.2.1, h.2.2.1.alloc o, h.2.2.2⟩
theorem FlushAt.alloc (h : FlushAt w wr g A2 c2 d j) (o : Obj) : FlushAt w (wr.alloc o) g A2 c2 d j := ⟨blk_old h.1, blk_old h.2.1, h.2.2.1, h.2.2.2.alloc o⟩
theorem scells_set (l : List ByteArray) (i : Nat) (s : ByteArray) : (scells l).toArray.setIfInBounds i (.string s) = (scells (l.set i s)).toArray := by
  rw [scells_map, scells_map, List.map_set]; simp
theorem fresh_put (h : FreshAt w wr g A2 c2 d) (i : Nat) (s : ByteArray) : FreshAt w (wr.setCell ⟨g, i, none⟩ (.string s)) g A2 c2 { d with secs := d.secs.set i s } := by
  refine ⟨h.1, ?_, h.2.2.1.setCell h.1 h.2.2.2 _, h.2.2.2⟩
  have := blk_set (j := i) (u := .string s) h.2.1
  rwa [scells_set] at this
theorem FlushAt.put (h : FlushAt w wr g A2 c2 d j) {x : Wr} (hx : d.pend[j]? = some x) (i : Nat) (hi : x.at_ = i) : FlushAt w (wr.setCell ⟨g, i, none⟩ (.string x.text)) g A2 c2 d (j + 1) := by
  have hg := h.2.2.1
  refine ⟨blk_other h.1 (by simp only; omega), blk_other h.2.1 (by simp only; omega), hg, ?_⟩
  have := fresh_put h.2.2.2 i x.text
  have e : puts d.secs (d.pend.take (j + 1)) = (puts d.secs (d.pend.take j)).set i x.text := by
    rw [List.take_add_one, hx]
    show puts d.secs (d.pend.take j ++ [x]) = _
    rw [puts_snoc]; unfold Ds.put; rw [hi]; rfl
  rw [e]
  exact this
theorem fresh_pend (h : FreshAt w wr g A2 c2 d) : RowOf wcell 2 wr wr.heap.size A2 d.pend := Own.row wcell_len rfl h.2.2.1
theorem fresh_sec (h : FreshAt w wr g A2 c2 d) {i : Nat} {s : ByteArray} (hs : d.secs[i]? = some s) : wr.cell? ⟨g, i, none⟩ = some (.string s) ∧ wr.frozen? ⟨g, i, none⟩ = false ∧ g < wr.heap.size :=
  ⟨blk_cell h.2.1 (by rw [List.getElem?_toArray, scells_map, List.getElem?_map, hs]; rfl), blk_frozen h.2.1 i, blk_lt h.2.1⟩
end

set_option maxHeartbeats 4000000 in
theorem flush_good (A : Option Addr) (c : Nat) (A' : Option Addr) (c' : Nat) (d : Dk) (w : World) (h : DiskAt w w.heap.size A c A' c' d) (hu : upE d = 0) (ha : allB d = true) :
    Calls Try.prog 19 #[dv A c A' c' d] w (DiskEnd w (flushed d) 0) := by
  have HU := Lib.hid (fun wx (hx : Below w.heap.size w wx) => by have := up_any A c A' c' d wx (h.step hx); rw [hu] at this; exact this)
  have hr := (upE_zero.1 hu).1
  have hdn := (upE_zero.1 hu).2
  have hl1 := (right_head hr).2.1
  have hl2 := (right_head hr).2.2.1
  have hl3 := (right_head hr).2.2.2.1
  have hl4 := (right_head hr).2.2.2.2
  have HF := Lib.hid (fun wx (hx : Below w.heap.size w wx) => fresh_any A c A' c' d wx (h.step hx) hl1 hl2)
  have HW0 := Lib.hid (fun (x : Wr) (hx : x ∈ d.pend) => right_wr hr hx)
  simp only [allB, Bool.or_eq_true, decide_eq_true_eq] at ha
  obtain ⟨l, p, left, down⟩ := d
  unfold dv dcells at *
  simp only at *
  clear h hu hr
  subst hdn
  obtain ⟨m, hm⟩ : ∃ m, m = p.length := ⟨_, rfl⟩
  have hal : left = -1 ∨ (0 ≤ left ∧ (m : Int) ≤ left) := by omega
  go_enter Try.func19, Try.ntmps19
  go_wp2_with fail
  refine (HU.out _ (by repeat first | with_reducible exact Below.refl _ _ | refine Below.alloc ?_ (by simp <;> omega) _)).mono ?_
  rintro e w1 ⟨rfl, b1⟩
  obtain ⟨⟨k1, k2⟩, hb, hz⟩ := boxes2 b1 (by simp)
  obtain ⟨⟨a0, a1, a2, a3⟩, f0, f1, f2, f3⟩ := blk4 k1
  have K1 := Lib.hid k1
  have K2 := Lib.hid k2
  have HB := Lib.hid hb
  clear k1 k2 b1 hb
  go_wp2_with fail
  refine (HF.out _ HB.out).mono ?_
  rintro e w2 ⟨g, A2, c2, rfl, hf⟩
  have L1 := Lib.hid (blk_call K1.out hf.2.2.1.2.1)
  have L2 := Lib.hid (blk_call K2.out hf.2.2.1.2.1)
  have HN1 := Lib.hid (fresh_ne hf (k := w.heap.size) (by omega))
  have HN2 := Lib.hid (fresh_ne hf (k := w.heap.size + 1) (by omega))
  have H2 := Lib.hid (fresh_base hf HB.out)
  have hgz : w.heap.size + 1 + 1 ≤ g := Nat.le_trans hz hf.1
  clear a0 a1 a2 a3 f0 f1 f2 f3 hf
  obtain ⟨⟨b0, b1, b2, b3⟩, f0, f1, f2, f3⟩ := blk4 L1.out
  obtain ⟨W3, hW3⟩ : ∃ W3, W3 = ((((w2.setCell ⟨w.heap.size, 0, none⟩ (.slice (some ⟨g, 0, none⟩) l.length l.length)).setCell ⟨w.heap.size, 1, none⟩ (.slice A2 p.length c2)).setCell ⟨w.heap.size, 2, none⟩ (.int .i64 left)).setCell ⟨w.heap.size, 3, none⟩ (.bool false)) := ⟨_, rfl⟩
  have H3 := Lib.hid (show FlushAt w W3 g A2 c2 ⟨l, p, left, false⟩ 0 from ⟨by rw [hW3]; exact set4 L1.out, by rw [hW3]; exact blk_other (blk_other (blk_other (blk_other L2.out (by simp)) (by simp)) (by simp)) (by simp), hgz, by
    rw [hW3]; exact ((((H2.out.set (p := ⟨w.heap.size, 0, none⟩) (Nat.le_refl _) HN1.out.2 HN1.out.1 (.slice (some ⟨g, 0, none⟩) l.length l.length)).set (p := ⟨w.heap.size, 1, none⟩) (Nat.le_refl _) HN1.out.2 HN1.out.1 (.slice A2 p.length c2)).set (p := ⟨w.heap.size, 2, none⟩) (Nat.le_refl _) HN1.out.2 HN1.out.1 (.int .i64 left)).set (p := ⟨w.heap.size, 3, none⟩) (Nat.le_refl _) HN1.out.2 HN1.out.1 (.bool false))⟩)
  have HW := Lib.hid hW3
  clear hW3
  go_upto_region 5 with fail
  rw [← HW.out]
  clear b0 b1 b2 b3 f0 f1 f2 f3
  obtain ⟨⟨b0, b1, b2, b3⟩, f0, f1, f2, f3⟩ := blk4 H3.out.1
  have hcp : p.length ≤ c2 := H3.out.2.2.2.2.2.1.lt
  have HM := Lib.hid hm
  clear hm ha
  have hm5 : m ≤ 512 := by rw [HM.out]; exact hl2
  have hcm : m ≤ c2 := by rw [HM.out]; exact hcp
  have hpm : p.length = m := HM.out.symm
  simp only [hpm] at b1 b2 b3
  clear hpm
  rcases hal with rfl | ⟨hal1, hal2⟩
  · go_wp2_with fail
    go_loopw [39] (fun i wr => ∃ j : Nat, i = .int .i64 j ∧ j ≤ m ∧ Hid (FlushAt w wr g A2 c2 ⟨l, p, (-1), false⟩ j)) (fun i _ => m - (intOf i).toNat)
    case atStart => exact ⟨0, rfl, by omega, H3⟩
    case round =>
      obtain ⟨j, rfl, hj, HJ⟩ := hrel
      by_cases hlt : j < m
      · obtain ⟨x, hx⟩ : ∃ x, p[j]? = some x := ⟨_, List.getElem?_eq_getElem (by rw [← HM.out]; exact hlt)⟩
        obtain ⟨w0, w1', w2'⟩ := HW0.out x (List.mem_of_getElem? hx)
        obtain ⟨q, hq⟩ : ∃ q : Nat, x.at_ = q := ⟨x.at_.toNat, by omega⟩
        have hql : q < l.length := by omega
        obtain ⟨s, hs⟩ : ∃ s, (puts l (p.take j))[q]? = some s := ⟨_, List.getElem?_eq_getElem (by rw [puts_len]; exact hql)⟩
        obtain ⟨b, off, rfl, hb, hcell⟩ := (fresh_pend HJ.out.2.2.2).open_ (by show 0 < p.length; rw [← HM.out]; omega)
        obtain ⟨d1, d2⟩ := pend_at hcell hx
        obtain ⟨d3, d4, d5⟩ := fresh_sec HJ.out.2.2.2 hs
        obtain ⟨⟨e0, e1, e2, e3⟩, e4, e5, e6, e7⟩ := blk4 HJ.out.1
        have HN := Lib.hid ((HJ.out.put hx q hq).alloc (.cells #[.int .i64 x.at_, .string x.text] 44))
        have hlt0 := blk_lt HJ.out.1
        rw [hq] at d1 HN
        clear hcell hx hs w0 w1' w2' hq e1 e2 e3 e5 e6 e7
        go_wp2_with fail
        go_roundw
        case rel => exact ⟨j + 1, by go_num, by omega, HN⟩
        case measure => simp [intOf]; omega
      · obtain rfl : m = j := by omega
        have hjm := HJ.out
        rw [HM.out] at hjm
        obtain ⟨r1, r2, r3, r4⟩ := hjm
        rw [List.take_length] at r4
        obtain ⟨⟨e0, e1, e2, e3⟩, e4, e5, e6, e7⟩ := blk4 r1
        obtain ⟨⟨s0, s1, s2, s3⟩, sf0, sf1, sf2, sf3⟩ := blk4 r2
        have R1 := Lib.hid r1
        have R2 := Lib.hid r2
        have R4 := Lib.hid r4
        simp only [← HM.out] at e1
        clear r1 r2 r4 HJ
        go_wp2_with fail
        refine bodyPost_ret (v := .tuple #[.agg #[.slice (some ⟨g, 0, none⟩) l.length l.length, .slice none 0 0, .int .i64 (-1), .bool false], .int .i64 0]) (by simp [results, Try.results19, go_sem, *]) rfl ?_
        have R5 : wr.heap[g]? = some (.cells (scells (puts l p)).toArray 9 (0, 0)) := R4.out.2.1
        have R6 : Below w.heap.size w wr := R4.out.2.2.1.2.1
        have hS : (((((wr.setCell ⟨w.heap.size, 1, none⟩ (.slice none 0 0)).setCell ⟨w.heap.size + 1, 0, none⟩ (.slice (some ⟨g, 0, none⟩) l.length l.length)).setCell ⟨w.heap.size + 1, 1, none⟩ (.slice none 0 0)).setCell ⟨w.heap.size + 1, 2, none⟩ (.int .i64 (-1))).setCell ⟨w.heap.size + 1, 3, none⟩ (.bool false)).heap[g]? = some (.cells (scells (puts l p)).toArray 9 (0, 0)) := by
          repeat first | with_reducible exact R5 | refine blk_other ?_ (by simp only; omega)
        have hBB : Below w.heap.size w (((((wr.setCell ⟨w.heap.size, 1, none⟩ (.slice none 0 0)).setCell ⟨w.heap.size + 1, 0, none⟩ (.slice (some ⟨g, 0, none⟩) l.length l.length)).setCell ⟨w.heap.size + 1, 1, none⟩ (.slice none 0 0)).setCell ⟨w.heap.size + 1, 2, none⟩ (.int .i64 (-1))).setCell ⟨w.heap.size + 1, 3, none⟩ (.bool false)) := by
          repeat first | with_reducible exact R6 | refine Below.setCell ?_ (by simp only; omega) _
        exact ⟨some ⟨g, 0, none⟩, l.length, none, 0, by simp [dv, dcells, flushed, puts_len], ⟨fresh_secs (w := w) hS, RowOf.nil, by show (puts l p).length ≤ _; rw [puts_len]; omega, by simp [flushed], by simp [flushed]⟩, hBB⟩
  · have hlm : (left == -1) = false := by simp; omega
    go_wp2_with fail
    go_loopw [39] (fun i wr => ∃ j : Nat, i = .int .i64 j ∧ j ≤ m ∧ Hid (FlushAt w wr g A2 c2 ⟨l, p, left, false⟩ j)) (fun i _ => m - (intOf i).toNat)
    case atStart => exact ⟨0, rfl, by omega, H3⟩
    case round =>
      obtain ⟨j, rfl, hj, HJ⟩ := hrel
      by_cases hlt : j < m
      · obtain ⟨x, hx⟩ : ∃ x, p[j]? = some x := ⟨_, List.getElem?_eq_getElem (by rw [← HM.out]; exact hlt)⟩
        obtain ⟨w0, w1', w2'⟩ := HW0.out x (List.mem_of_getElem? hx)
        obtain ⟨q, hq⟩ : ∃ q : Nat, x.at_ = q := ⟨x.at_.toNat, by omega⟩
        have hql : q < l.length := by omega
        obtain ⟨s, hs⟩ : ∃ s, (puts l (p.take j))[q]? = some s := ⟨_, List.getElem?_eq_getElem (by rw [puts_len]; exact hql)⟩
        obtain ⟨b, off, rfl, hb, hcell⟩ := (fresh_pend HJ.out.2.2.2).open_ (by show 0 < p.length; rw [← HM.out]; omega)
        obtain ⟨d1, d2⟩ := pend_at hcell hx
        obtain ⟨d3, d4, d5⟩ := fresh_sec HJ.out.2.2.2 hs
        obtain ⟨⟨e0, e1, e2, e3⟩, e4, e5, e6, e7⟩ := blk4 HJ.out.1
        have HN := Lib.hid ((HJ.out.put hx q hq).alloc (.cells #[.int .i64 x.at_, .string x.text] 44))
        have hlt0 := blk_lt HJ.out.1
        rw [hq] at d1 HN
        clear hcell hx hs w0 w1' w2' hq e1 e2 e3 e5 e6 e7
        go_wp2_with fail
        go_roundw
        case rel => exact ⟨j + 1, by go_num, by omega, HN⟩
        case measure => simp [intOf]; omega
      · obtain rfl : m = j := by omega
        have hjm := HJ.out
        rw [HM.out] at hjm
        obtain ⟨r1, r2, r3, r4⟩ := hjm
        rw [List.take_length] at r4
        obtain ⟨⟨e0, e1, e2, e3⟩, e4, e5, e6, e7⟩ := blk4 r1
        obtain ⟨⟨s0, s1, s2, s3⟩, sf0, sf1, sf2, sf3⟩ := blk4 r2
        have R1 := Lib.hid r1
        have R2 := Lib.hid r2
        have R4 := Lib.hid r4
        simp only [← HM.out] at e1
        clear r1 r2 r4 HJ
        go_wp2_with fail
        refine bodyPost_ret (v := .tuple #[.agg #[.slice (some ⟨g, 0, none⟩) l.length l.length, .slice none 0 0, .int .i64 (left - (m : Int)), .bool false], .int .i64 0]) (by simp [results, Try.results19, go_sem, *]) rfl ?_
        have R5 : wr.heap[g]? = some (.cells (scells (puts l p)).toArray 9 (0, 0)) := R4.out.2.1
        have R6 : Below w.heap.size w wr := R4.out.2.2.1.2.1
        have hS : ((((((wr.setCell ⟨w.heap.size, 1, none⟩ (.slice none 0 0)).setCell ⟨w.heap.size, 2, none⟩ (.int .i64 (left - (m : Int)))).setCell ⟨w.heap.size + 1, 0, none⟩ (.slice (some ⟨g, 0, none⟩) l.length l.length)).setCell ⟨w.heap.size + 1, 1, none⟩ (.slice none 0 0)).setCell ⟨w.heap.size + 1, 2, none⟩ (.int .i64 (left - (m : Int)))).setCell ⟨w.heap.size + 1, 3, none⟩ (.bool false)).heap[g]? = some (.cells (scells (puts l p)).toArray 9 (0, 0)) := by
          repeat first | with_reducible exact R5 | refine blk_other ?_ (by simp only; omega)
        have hBB : Below w.heap.size w ((((((wr.setCell ⟨w.heap.size, 1, none⟩ (.slice none 0 0)).setCell ⟨w.heap.size, 2, none⟩ (.int .i64 (left - (m : Int)))).setCell ⟨w.heap.size + 1, 0, none⟩ (.slice (some ⟨g, 0, none⟩) l.length l.length)).setCell ⟨w.heap.size + 1, 1, none⟩ (.slice none 0 0)).setCell ⟨w.heap.size + 1, 2, none⟩ (.int .i64 (left - (m : Int)))).setCell ⟨w.heap.size + 1, 3, none⟩ (.bool false)) := by
          repeat first | with_reducible exact R6 | refine Below.setCell ?_ (by simp only; omega) _
        exact ⟨some ⟨g, 0, none⟩, l.length, none, 0, by simp [dv, dcells, flushed, puts_len, hal1, HM.out], ⟨fresh_secs (w := w) hS, RowOf.nil, by show (puts l p).length ≤ _; rw [puts_len]; omega, by simp [flushed], by simp [flushed]⟩, hBB⟩

end Go.Proofs.Ytlfiooenbgegkaa
