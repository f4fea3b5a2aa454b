/- The reference's Flush, walked. -/
import Derived.Test.YtlfiooenbgegkaaDp
namespace Go.Proofs.Ytlfiooenbgegkaa
open Go.RowKit Ds
set_option linter.unusedSimpArgs false
set_option linter.unusedVariables false

theorem rflush_bad (A : Option Addr) (n c : Nat) (A' : Option Addr) (n' c' : Nat) (left : Int) (down : Bool) (er : Int) (w : World) (HU : Hid (RUp A n c A' n' c' left down er w)) (h : er ≠ 0) :
    Calls Try.prog 20 #[.agg #[.slice A n c, .slice A' n' c', .int .i64 left, .bool down]] w (DiskEnd w nilD er) := by
  have t1 : (er != 0) = true := by simpa using h
  clear h
  go_enter Try.func20, Try.ntmps20
  go_wp2_with fail
  refine (HU.out _ (by repeat first | with_reducible exact Below.refl _ _ | refine Below.alloc ?_ (by simp <;> omega) _)).mono ?_
  rintro e w1 ⟨rfl, b1⟩
  obtain ⟨⟨k1, k2⟩, hb, hz⟩ := boxes2 b1 (by simp)
  obtain ⟨⟨a0, a1, a2, a3⟩, f0, f1, f2, f3⟩ := blk4 k2
  have HB := Lib.hid hb
  clear k1 k2 b1 hb
  go_wp2_with fail
  refine bodyPost_ret (v := .tuple #[dv none 0 none 0 nilD, .int .i64 er]) (by simp [results, Try.results20, go_sem, dv, dcells, nilD, *]) rfl (DiskEnd.none_ ?_)
  repeat first | with_reducible exact HB.out | refine Below.setCell ?_ (by simp only; omega) _

theorem owns_base {w w1 w2 : World} {v : Value} {l : List ByteArray} (h : OwnS w1 w2 v l) (hb : Below w.heap.size w w1) : OwnS w w2 v l := Own.rebase h hb
theorem owns_form {w w' : World} {g n c : Nat} {l : List ByteArray} (h : OwnS w w' (.slice (some ⟨g, 0, none⟩) n c) l) : l.length = n := by
  rcases h.1.2 with ⟨e, _⟩ | ⟨g', cap, cur, e, _⟩
  · cases e
  · injection e with _ e _; exact e.symm

theorem owns_cell {w wr : World} {g n c : Nat} {l : List ByteArray} (h : OwnS w wr (.slice (some ⟨g, 0, none⟩) n c) l) {i : Nat} {s : ByteArray} (hs : l[i]? = some s) : wr.cell? ⟨g, i, none⟩ = some (.string s) := by
  have hn := owns_form h
  unfold OwnS at h
  rw [hn] at h
  rw [h.1.cellAt i (by have := (List.getElem?_eq_some_iff.1 hs).1; omega), List.getElem?_map, hs]; rfl
theorem owns_row' {w w' : World} {g n c : Nat} {l : List ByteArray} (h : OwnS w w' (.slice (some ⟨g, 0, none⟩) n c) l) : RowOf scell 1 w' w'.heap.size (some ⟨g, 0, none⟩) l := by
  obtain rfl := owns_form h
  exact owns_row h
set_option maxHeartbeats 4000000 in
theorem rflush_good (A : Option Addr) (c : Nat) (A' : Option Addr) (c' : Nat) (d : Dk) (w : World) (h : DiskAt w w.heap.size A c A' c' d) (hu : upE d = 0) (ha : allB d = true) :
    Calls Try.prog 20 #[dv A c A' c' d] w (DiskEnd w (flushed d) 0) := by
  have HU := Lib.hid (fun wx (hx : Below w.heap.size w wx) => by have := rup_any A c A' c' d wx (h.step hx); rw [hu] at this; exact this)
  have hr := (upE_zero.1 hu).1
  obtain ⟨a1, a2, a3, a4, a5⟩ := right_head hr
  have HS := Lib.hid (fun wx (hx : Below w.heap.size w wx) => rsectors_any A c A' c' d d.pend.length wx (h.step hx) hr (Nat.le_refl _))
  simp only [allB, Bool.or_eq_true, decide_eq_true_eq] at ha
  have hal : d.left = -1 ∨ (0 ≤ d.left ∧ (d.pend.length : Int) ≤ d.left) := by omega
  have HP := Lib.hid (puts_len d.pend d.secs)
  clear h hu hr ha
  obtain ⟨l, p, left, down⟩ := d
  unfold dv dcells at *
  simp only at *
  rcases hal with rfl | ⟨hl1, hl2⟩
  · have HV := Lib.hid (show flushed ⟨l, p, -1, down⟩ = ⟨puts l p, [], -1, false⟩ by simp [flushed])
    go_enter Try.func20, Try.ntmps20
    go_wp2_with fail
    refine (HU.out _ (by repeat first | with_reducible exact Below.refl _ _ | refine Below.alloc ?_ (by simp <;> omega) _)).mono ?_
    rintro e w1 ⟨rfl, b1⟩
    obtain ⟨⟨k1, k2⟩, hb, hz⟩ := boxes2 b1 (by simp)
    have K1 := Lib.hid k1
    have K2 := Lib.hid k2
    have HB := Lib.hid hb
    obtain ⟨⟨b0, b1', b2, b3⟩, f0, f1, f2, f3⟩ := blk4 k1
    clear k1 k2 b1 hb
    go_wp2_with fail
    refine (HS.out _ HB.out).mono ?_
    rintro e w2 ⟨g, c2, rfl, ho⟩
    have HO := Lib.hid (owns_base ho HB.out)
    have L1 := Lib.hid (blk_call K1.out ho.2.1)
    have L2 := Lib.hid (blk_call K2.out ho.2.1)
    have hg1 : w1.heap.size ≤ g := own_ge' ho.1 rfl
    have hg2 : g < w2.heap.size := (ho.1.lt g rfl).2
    have hlt1 := blk_lt L1.out
    have hlt2 := blk_lt L2.out
    clear ho b0 b1' b2 b3 f0 f1 f2 f3
    obtain ⟨X, hX⟩ : ∃ X, X = w2.alloc (.cells #[.slice (some ⟨g, 0, none⟩) l.length c2, .slice none 0 0, .int .i64 (-1), .bool false] 25) := ⟨_, rfl⟩
    have M1 := Lib.hid (show X.heap[w.heap.size]? = some (.cells #[.slice A l.length c, .slice A' p.length c', .int .i64 (-1), .bool down] 25 (0, 0)) by rw [hX]; exact blk_old L1.out)
    have M2 := Lib.hid (show X.heap[w.heap.size + 1]? = some (.cells #[.slice none 0 0, .slice none 0 0, .int .i64 0, .bool false] 25 (0, 0)) by rw [hX]; exact blk_old L2.out)
    have M3 := Lib.hid (show X.heap[w2.heap.size]? = some (.cells #[.slice (some ⟨g, 0, none⟩) l.length c2, .slice none 0 0, .int .i64 (-1), .bool false] 25 (0, 0)) by rw [hX]; exact blk_new _ _)
    have HO2 := Lib.hid (show OwnS w X _ _ by rw [hX]; exact Own.alloc HO.out _)
    go_upto_region 11 with fail
    rw [← hX]
    clear hX
    obtain ⟨⟨b0, b1', b2, b3⟩, f0, f1, f2, f3⟩ := blk4 M1.out
    obtain ⟨⟨s0, s1, s2, s3⟩, sf0, sf1, sf2, sf3⟩ := blk4 M2.out
    obtain ⟨⟨r0, r1, r2, r3⟩, rf0, rf1, rf2, rf3⟩ := blk4 M3.out
    go_wp2_with fail
    refine bodyPost_ret (v := .tuple #[.agg #[.slice (some ⟨g, 0, none⟩) l.length c2, .slice none 0 0, .int .i64 (-1), .bool false], .int .i64 0]) (by simp [results, Try.results20, go_sem, *]) rfl ?_
    rw [HV.out]
    have hO : OwnS w ((((X.setCell ⟨w.heap.size + 1, 0, none⟩ (.slice (some ⟨g, 0, none⟩) l.length c2)).setCell ⟨w.heap.size + 1, 1, none⟩ (.slice none 0 0)).setCell ⟨w.heap.size + 1, 2, none⟩ (.int .i64 (-1))).setCell ⟨w.heap.size + 1, 3, none⟩ (.bool false)) (.slice (some ⟨g, 0, none⟩) l.length c2) (puts l p) := by
      have hv := HO2.out
      rw [List.take_length] at hv
      have HV2 : Own w X 9 1 (.slice (some ⟨g, 0, none⟩) l.length c2) (puts l p).length ((puts l p).map Value.string) := hv
      exact ((((HV2.setCell (p := ⟨w.heap.size + 1, 0, none⟩) (by simp only; omega) (by simp only [Value.ownBlock]; intro e; injection e with e; omega) (.slice (some ⟨g, 0, none⟩) l.length c2)).setCell (p := ⟨w.heap.size + 1, 1, none⟩) (by simp only; omega) (by simp only [Value.ownBlock]; intro e; injection e with e; omega) (.slice none 0 0)).setCell (p := ⟨w.heap.size + 1, 2, none⟩) (by simp only; omega) (by simp only [Value.ownBlock]; intro e; injection e with e; omega) (.int .i64 (-1))).setCell (p := ⟨w.heap.size + 1, 3, none⟩) (by simp only; omega) (by simp only [Value.ownBlock]; intro e; injection e with e; omega) (.bool false))
    exact ⟨some ⟨g, 0, none⟩, c2, none, 0, by simp [dv, dcells, HP.out], ⟨owns_row' hO, RowOf.nil, by show (puts l p).length ≤ _; rw [HP.out]; omega, by simp, by simp⟩, hO.2.1⟩
  · have HV := Lib.hid (show flushed ⟨l, p, left, down⟩ = ⟨puts l p, [], left - (p.length : Int), false⟩ by simp [flushed, hl1])
    go_enter Try.func20, Try.ntmps20
    go_wp2_with fail
    refine (HU.out _ (by repeat first | with_reducible exact Below.refl _ _ | refine Below.alloc ?_ (by simp <;> omega) _)).mono ?_
    rintro e w1 ⟨rfl, b1⟩
    obtain ⟨⟨k1, k2⟩, hb, hz⟩ := boxes2 b1 (by simp)
    have K1 := Lib.hid k1
    have K2 := Lib.hid k2
    have HB := Lib.hid hb
    obtain ⟨⟨b0, b1', b2, b3⟩, f0, f1, f2, f3⟩ := blk4 k1
    clear k1 k2 b1 hb
    go_wp2_with fail
    refine (HS.out _ HB.out).mono ?_
    rintro e w2 ⟨g, c2, rfl, ho⟩
    have HO := Lib.hid (owns_base ho HB.out)
    have L1 := Lib.hid (blk_call K1.out ho.2.1)
    have L2 := Lib.hid (blk_call K2.out ho.2.1)
    have hg1 : w1.heap.size ≤ g := own_ge' ho.1 rfl
    have hg2 : g < w2.heap.size := (ho.1.lt g rfl).2
    have hlt1 := blk_lt L1.out
    have hlt2 := blk_lt L2.out
    clear ho b0 b1' b2 b3 f0 f1 f2 f3
    obtain ⟨X, hX⟩ : ∃ X, X = w2.alloc (.cells #[.slice (some ⟨g, 0, none⟩) l.length c2, .slice none 0 0, .int .i64 (-1), .bool false] 25) := ⟨_, rfl⟩
    have M1 := Lib.hid (show X.heap[w.heap.size]? = some (.cells #[.slice A l.length c, .slice A' p.length c', .int .i64 left, .bool down] 25 (0, 0)) by rw [hX]; exact blk_old L1.out)
    have M2 := Lib.hid (show X.heap[w.heap.size + 1]? = some (.cells #[.slice none 0 0, .slice none 0 0, .int .i64 0, .bool false] 25 (0, 0)) by rw [hX]; exact blk_old L2.out)
    have M3 := Lib.hid (show X.heap[w2.heap.size]? = some (.cells #[.slice (some ⟨g, 0, none⟩) l.length c2, .slice none 0 0, .int .i64 (-1), .bool false] 25 (0, 0)) by rw [hX]; exact blk_new _ _)
    have HO2 := Lib.hid (show OwnS w X _ _ by rw [hX]; exact Own.alloc HO.out _)
    go_upto_region 11 with fail
    rw [← hX]
    clear hX
    obtain ⟨⟨b0, b1', b2, b3⟩, f0, f1, f2, f3⟩ := blk4 M1.out
    obtain ⟨⟨s0, s1, s2, s3⟩, sf0, sf1, sf2, sf3⟩ := blk4 M2.out
    obtain ⟨⟨r0, r1, r2, r3⟩, rf0, rf1, rf2, rf3⟩ := blk4 M3.out
    go_wp2_with fail
    refine bodyPost_ret (v := .tuple #[.agg #[.slice (some ⟨g, 0, none⟩) l.length c2, .slice none 0 0, .int .i64 (left - (p.length : Int)), .bool false], .int .i64 0]) (by simp [results, Try.results20, go_sem, *]) rfl ?_
    rw [HV.out]
    have hO : OwnS w (((((X.setCell ⟨w2.heap.size, 2, none⟩ (.int .i64 (left - (p.length : Int)))).setCell ⟨w.heap.size + 1, 0, none⟩ (.slice (some ⟨g, 0, none⟩) l.length c2)).setCell ⟨w.heap.size + 1, 1, none⟩ (.slice none 0 0)).setCell ⟨w.heap.size + 1, 2, none⟩ (.int .i64 (left - (p.length : Int)))).setCell ⟨w.heap.size + 1, 3, none⟩ (.bool false)) (.slice (some ⟨g, 0, none⟩) l.length c2) (puts l p) := by
      have hv := HO2.out
      rw [List.take_length] at hv
      have HV2 : Own w X 9 1 (.slice (some ⟨g, 0, none⟩) l.length c2) (puts l p).length ((puts l p).map Value.string) := hv
      exact (((((HV2.setCell (p := ⟨w2.heap.size, 2, none⟩) (by simp only; omega) (by simp only [Value.ownBlock]; intro e; injection e with e; omega) (.int .i64 (left - (p.length : Int)))).setCell (p := ⟨w.heap.size + 1, 0, none⟩) (by simp only; omega) (by simp only [Value.ownBlock]; intro e; injection e with e; omega) (.slice (some ⟨g, 0, none⟩) l.length c2)).setCell (p := ⟨w.heap.size + 1, 1, none⟩) (by simp only; omega) (by simp only [Value.ownBlock]; intro e; injection e with e; omega) (.slice none 0 0)).setCell (p := ⟨w.heap.size + 1, 2, none⟩) (by simp only; omega) (by simp only [Value.ownBlock]; intro e; injection e with e; omega) (.int .i64 (left - (p.length : Int)))).setCell (p := ⟨w.heap.size + 1, 3, none⟩) (by simp only; omega) (by simp only [Value.ownBlock]; intro e; injection e with e; omega) (.bool false))
    exact ⟨some ⟨g, 0, none⟩, c2, none, 0, by simp [dv, dcells, HP.out], ⟨owns_row' hO, RowOf.nil, by show (puts l p).length ≤ _; rw [HP.out]; omega, by simp, by simp⟩, hO.2.1⟩

end Go.Proofs.Ytlfiooenbgegkaa
