/- Arm, Cut, Start, walked. -/
import Derived.Test.YtlfiooenbgegkaaDg2
namespace Go.Proofs.Ytlfiooenbgegkaa
open Go.RowKit Ds
set_option linter.unusedSimpArgs false
set_option linter.unusedVariables false

theorem arm_bad (A : Option Addr) (n c : Nat) (A' : Option Addr) (n' c' : Nat) (left : Int) (down : Bool) (k : Int) (er : Int) (w : World) (HU : Hid (UpGives A n c A' n' c' left down er w)) (h : er ≠ 0) :
    Calls Try.prog 21 #[.agg #[.slice A n c, .slice A' n' c', .int .i64 left, .bool down], .int .i64 k] w (DiskEnd w nilD er) := by
  have t1 : (er != 0) = true := by simpa using h
  clear h
  go_enter Try.func21, Try.ntmps21
  go_wp2_with fail
  refine (HU.out _ (by repeat first | with_reducible exact Below.refl _ _ | refine Below.alloc ?_ (by simp <;> omega) _)).mono ?_
  rintro e w1 ⟨rfl, b1⟩
  obtain ⟨⟨k1, k2⟩, hb, hz⟩ := boxes2 b1 (by simp)
  obtain ⟨⟨a0, a1, a2, a3⟩, f0, f1, f2, f3⟩ := blk4 k2
  have HB := Lib.hid hb
  clear k1 k2 b1 hb
  go_wp2_with fail
  refine bodyPost_ret (v := .tuple #[dv none 0 none 0 nilD, .int .i64 er]) (by simp [results, Try.results21, go_sem, dv, dcells, nilD, *]) rfl (DiskEnd.none_ ?_)
  repeat first | with_reducible exact HB.out | refine Below.setCell ?_ (by simp only; omega) _

theorem arm_out (A : Option Addr) (n c : Nat) (A' : Option Addr) (n' c' : Nat) (left : Int) (down : Bool) (k : Int) (w : World) (HU : Hid (UpGives A n c A' n' c' left down 0 w)) (h : k < 0 ∨ (0 ≤ k ∧ 512 < k)) :
    Calls Try.prog 21 #[.agg #[.slice A n c, .slice A' n' c', .int .i64 left, .bool down], .int .i64 k] w (DiskEnd w nilD 1) := by
  rcases h with h | ⟨h, h2⟩
  all_goals
    go_enter Try.func21, Try.ntmps21
    go_wp2_with fail
    refine (HU.out _ (by repeat first | with_reducible exact Below.refl _ _ | refine Below.alloc ?_ (by simp <;> omega) _)).mono ?_
    rintro e w1 ⟨rfl, b1⟩
    obtain ⟨⟨k1, k2⟩, hb, hz⟩ := boxes2 b1 (by simp)
    obtain ⟨⟨a0, a1, a2, a3⟩, f0, f1, f2, f3⟩ := blk4 k2
    have HB := Lib.hid hb
    clear k1 k2 b1 hb
    go_wp2_with fail
    refine bodyPost_ret (v := .tuple #[dv none 0 none 0 nilD, .int .i64 1]) (by simp [results, Try.results21, go_sem, dv, dcells, nilD, *]) rfl (DiskEnd.none_ ?_)
    repeat first | with_reducible exact HB.out | refine Below.setCell ?_ (by simp only; omega) _

theorem cut_bad (A : Option Addr) (n c : Nat) (A' : Option Addr) (n' c' : Nat) (left : Int) (down : Bool) (er : Int) (w : World) (HU : Hid (UpGives A n c A' n' c' left down er w)) (h : er ≠ 0) :
    Calls Try.prog 23 #[.agg #[.slice A n c, .slice A' n' c', .int .i64 left, .bool down]] w (DiskEnd w nilD er) := by
  have t1 : (er != 0) = true := by simpa using h
  clear h
  go_enter Try.func23, Try.ntmps23
  go_wp2_with fail
  refine (HU.out _ (by repeat first | with_reducible exact Below.refl _ _ | refine Below.alloc ?_ (by simp <;> omega) _)).mono ?_
  rintro e w1 ⟨rfl, b1⟩
  obtain ⟨⟨k1, k2⟩, hb, hz⟩ := boxes2 b1 (by simp)
  obtain ⟨⟨a0, a1, a2, a3⟩, f0, f1, f2, f3⟩ := blk4 k2
  have HB := Lib.hid hb
  clear k1 k2 b1 hb
  go_wp2_with fail
  refine bodyPost_ret (v := .tuple #[dv none 0 none 0 nilD, .int .i64 er]) (by simp [results, Try.results23, go_sem, dv, dcells, nilD, *]) rfl (DiskEnd.none_ ?_)
  repeat first | with_reducible exact HB.out | refine Below.setCell ?_ (by simp only; omega) _

set_option maxHeartbeats 4000000 in
theorem arm_good (A : Option Addr) (c : Nat) (A' : Option Addr) (c' : Nat) (d : Dk) (k : Int) (w : World) (h : DiskAt w w.heap.size A c A' c' d) (hu : upE d = 0) (h0 : 0 ≤ k) (h1 : k ≤ 512) :
    Calls Try.prog 21 #[dv A c A' c' d, .int .i64 k] w (DiskEnd w { d with left := k } 0) := by
  have HU := Lib.hid (fun wx (hx : Below w.heap.size w wx) => by have := up_any A c A' c' d wx (h.step hx); rw [hu] at this; exact this)
  have hl1 := (right_head (upE_zero.1 hu).1).2.1
  have hl2 := (right_head (upE_zero.1 hu).1).2.2.1
  have HF := Lib.hid (fun wx (hx : Below w.heap.size w wx) => fresh_any A c A' c' d wx (h.step hx) hl1 hl2)
  obtain ⟨l, p, left, down⟩ := d
  unfold dv dcells at *
  simp only at *
  clear h hu
  go_enter Try.func21, Try.ntmps21
  go_wp2_with fail
  refine (HU.out _ (by repeat first | with_reducible exact Below.refl _ _ | refine Below.alloc ?_ (by simp <;> omega) _)).mono ?_
  rintro e w1 ⟨rfl, b1⟩
  obtain ⟨⟨k1, k2⟩, hb, hz⟩ := boxes2 b1 (by simp)
  obtain ⟨⟨a0, a1, a2, a3⟩, f0, f1, f2, f3⟩ := blk4 k1
  have K1 := Lib.hid k1
  have K2 := Lib.hid k2
  have HB := Lib.hid hb
  clear k1 k2 b1 hb
  go_wp2_with fail
  refine (HF.out _ HB.out).mono ?_
  rintro e w2 ⟨g, A2, c2, rfl, hf⟩
  have L1 := Lib.hid (blk_call K1.out hf.2.2.1.2.1)
  have L2 := Lib.hid (blk_call K2.out hf.2.2.1.2.1)
  have HN1 := Lib.hid (fresh_ne hf (k := w.heap.size) (by omega))
  have HN2 := Lib.hid (fresh_ne hf (k := w.heap.size + 1) (by omega))
  have H2 := Lib.hid (fresh_base hf HB.out)
  clear a0 a1 a2 a3 f0 f1 f2 f3 hf
  obtain ⟨⟨b0, b1, b2, b3⟩, f0, f1, f2, f3⟩ := blk4 L1.out
  obtain ⟨W3, hW3⟩ : ∃ W3, W3 = ((((w2.setCell ⟨w.heap.size, 0, none⟩ (.slice (some ⟨g, 0, none⟩) l.length l.length)).setCell ⟨w.heap.size, 1, none⟩ (.slice A2 p.length c2)).setCell ⟨w.heap.size, 2, none⟩ (.int .i64 left)).setCell ⟨w.heap.size, 3, none⟩ (.bool down)) := ⟨_, rfl⟩
  have H3 := Lib.hid (show FreshAt w W3 g A2 c2 ⟨l, p, left, down⟩ by rw [hW3]; exact ((((H2.out.set (p := ⟨w.heap.size, 0, none⟩) (Nat.le_refl _) HN1.out.2 HN1.out.1 (.slice (some ⟨g, 0, none⟩) l.length l.length)).set (p := ⟨w.heap.size, 1, none⟩) (Nat.le_refl _) HN1.out.2 HN1.out.1 (.slice A2 p.length c2)).set (p := ⟨w.heap.size, 2, none⟩) (Nat.le_refl _) HN1.out.2 HN1.out.1 (.int .i64 left)).set (p := ⟨w.heap.size, 3, none⟩) (Nat.le_refl _) HN1.out.2 HN1.out.1 (.bool down)))
  have M1 := Lib.hid (show W3.heap[w.heap.size]? = some (.cells #[.slice (some ⟨g, 0, none⟩) l.length l.length, .slice A2 p.length c2, .int .i64 left, .bool down] 25 (0, 0)) by rw [hW3]; exact set4 L1.out)
  have M2 := Lib.hid (show W3.heap[w.heap.size + 1]? = some (.cells #[.slice none 0 0, .slice none 0 0, .int .i64 0, .bool false] 25 (0, 0)) by rw [hW3]; exact blk_other (blk_other (blk_other (blk_other L2.out (by simp)) (by simp)) (by simp)) (by simp))
  have HW := Lib.hid hW3
  clear hW3
  go_upto_region 7 with fail
  rw [← HW.out]
  clear b0 b1 b2 b3 f0 f1 f2 f3
  obtain ⟨⟨b0, b1, b2, b3⟩, f0, f1, f2, f3⟩ := blk4 M1.out
  obtain ⟨⟨s0, s1, s2, s3⟩, sf0, sf1, sf2, sf3⟩ := blk4 M2.out
  go_wp2_with fail
  refine bodyPost_ret (v := .tuple #[.agg #[.slice (some ⟨g, 0, none⟩) l.length l.length, .slice A2 p.length c2, .int .i64 k, .bool down], .int .i64 0]) (by simp [results, Try.results21, go_sem, *]) rfl ?_
  have hF : FreshAt w (((((W3.setCell ⟨w.heap.size, 2, none⟩ (.int .i64 k)).setCell ⟨w.heap.size + 1, 0, none⟩ (.slice (some ⟨g, 0, none⟩) l.length l.length)).setCell ⟨w.heap.size + 1, 1, none⟩ (.slice A2 p.length c2)).setCell ⟨w.heap.size + 1, 2, none⟩ (.int .i64 k)).setCell ⟨w.heap.size + 1, 3, none⟩ (.bool down)) g A2 c2 ⟨l, p, left, down⟩ := (((((H3.out.set (p := ⟨w.heap.size, 2, none⟩) (Nat.le_refl _) HN1.out.2 HN1.out.1 (.int .i64 k)).set (p := ⟨w.heap.size + 1, 0, none⟩) (Nat.le_succ _) HN2.out.2 HN2.out.1 (.slice (some ⟨g, 0, none⟩) l.length l.length)).set (p := ⟨w.heap.size + 1, 1, none⟩) (Nat.le_succ _) HN2.out.2 HN2.out.1 (.slice A2 p.length c2)).set (p := ⟨w.heap.size + 1, 2, none⟩) (Nat.le_succ _) HN2.out.2 HN2.out.1 (.int .i64 k)).set (p := ⟨w.heap.size + 1, 3, none⟩) (Nat.le_succ _) HN2.out.2 HN2.out.1 (.bool down))
  have hD : DiskAt _ _ (some ⟨g, 0, none⟩) l.length A2 c2 ⟨l, p, k, down⟩ := fresh_disk (d := ⟨l, p, k, down⟩) hF hl1 hl2
  exact ⟨some ⟨g, 0, none⟩, l.length, A2, c2, by simp [dv, dcells], hD, hF.2.2.1.2.1⟩

theorem arm_any (A : Option Addr) (c : Nat) (A' : Option Addr) (c' : Nat) (d : Dk) (k : Int) (w : World) (h : DiskAt w w.heap.size A c A' c' d) :
    Calls Try.prog 21 #[dv A c A' c' d, .int .i64 k] w (DiskEnd w (armD d k) (armE d k)) := by
  have HU := Lib.hid (fun wx (hx : Below w.heap.size w wx) => up_any A c A' c' d wx (h.step hx))
  by_cases hu : upE d = 0
  · by_cases hk : 0 ≤ k ∧ k ≤ 512
    · have e1 : armE d k = 0 := by unfold armE; rw [if_pos hu, if_pos hk]
      have e2 : armD d k = { d with left := k } := by unfold armD; rw [if_pos e1]
      rw [e1, e2]
      exact arm_good A c A' c' d k w h hu hk.1 hk.2
    · have e1 : armE d k = 1 := by unfold armE; rw [if_pos hu, if_neg hk]
      have e2 : armD d k = nilD := by unfold armD; rw [if_neg (by rw [e1]; decide)]
      rw [e1, e2]
      rw [hu] at HU
      exact arm_out A _ c A' _ c' d.left d.down k w HU (by omega)
  · have e1 : armE d k = upE d := by unfold armE; rw [if_neg hu]
    have e2 : armD d k = nilD := by unfold armD; rw [if_neg (by rw [e1]; exact hu)]
    rw [e1, e2]
    exact arm_bad A _ c A' _ c' d.left d.down k _ w HU hu

set_option maxHeartbeats 4000000 in
theorem cut_good (A : Option Addr) (c : Nat) (A' : Option Addr) (c' : Nat) (d : Dk) (w : World) (h : DiskAt w w.heap.size A c A' c' d) (hu : upE d = 0) :
    Calls Try.prog 23 #[dv A c A' c' d] w (DiskEnd w ⟨d.secs, [], -1, true⟩ 0) := by
  have HU := Lib.hid (fun wx (hx : Below w.heap.size w wx) => by have := up_any A c A' c' d wx (h.step hx); rw [hu] at this; exact this)
  have hl1 := (right_head (upE_zero.1 hu).1).2.1
  have hl2 := (right_head (upE_zero.1 hu).1).2.2.1
  have HF := Lib.hid (fun wx (hx : Below w.heap.size w wx) => fresh_any A c A' c' d wx (h.step hx) hl1 hl2)
  obtain ⟨l, p, left, down⟩ := d
  unfold dv dcells at *
  simp only at *
  clear h hu
  go_enter Try.func23, Try.ntmps23
  go_wp2_with fail
  refine (HU.out _ (by repeat first | with_reducible exact Below.refl _ _ | refine Below.alloc ?_ (by simp <;> omega) _)).mono ?_
  rintro e w1 ⟨rfl, b1⟩
  obtain ⟨⟨k1, k2⟩, hb, hz⟩ := boxes2 b1 (by simp)
  obtain ⟨⟨a0, a1, a2, a3⟩, f0, f1, f2, f3⟩ := blk4 k1
  have K1 := Lib.hid k1
  have K2 := Lib.hid k2
  have HB := Lib.hid hb
  clear k1 k2 b1 hb
  go_wp2_with fail
  refine (HF.out _ HB.out).mono ?_
  rintro e w2 ⟨g, A2, c2, rfl, hf⟩
  have L1 := Lib.hid (blk_call K1.out hf.2.2.1.2.1)
  have L2 := Lib.hid (blk_call K2.out hf.2.2.1.2.1)
  have HN1 := Lib.hid (fresh_ne hf (k := w.heap.size) (by omega))
  have HN2 := Lib.hid (fresh_ne hf (k := w.heap.size + 1) (by omega))
  have H2 := Lib.hid (fresh_base hf HB.out)
  clear a0 a1 a2 a3 f0 f1 f2 f3 hf
  have HO := Lib.hid (off_any (some ⟨g, 0, none⟩) l.length A2 c2 ⟨l, p, left, down⟩ w2)
  unfold dv dcells offD at HO
  simp only at HO
  go_wp2_with fail
  refine HO.out.mono ?_
  rintro e w3 ⟨rfl, b3⟩
  have M1 := Lib.hid (blk_call L1.out b3)
  have M2 := Lib.hid (blk_call L2.out b3)
  have HS := Lib.hid (blk_call H2.out.2.1 b3)
  have HB3 := Lib.hid (H2.out.2.2.1.2.1.trans (b3.mono H2.out.2.2.1.2.1.size))
  clear b3
  obtain ⟨⟨b0, b1, b2, b3⟩, f0, f1, f2, f3⟩ := blk4 M1.out
  obtain ⟨⟨s0, s1, s2, s3⟩, sf0, sf1, sf2, sf3⟩ := blk4 M2.out
  go_wp2_with fail
  refine bodyPost_ret (v := .tuple #[.agg #[.slice (some ⟨g, 0, none⟩) l.length l.length, .slice none 0 0, .int .i64 (-1), .bool true], .int .i64 0]) (by simp [results, Try.results23, go_sem, *]) rfl ?_
  have hgw := HN2.out.2
  have hS : ((((w3.setCell ⟨w.heap.size + 1, 0, none⟩ (.slice (some ⟨g, 0, none⟩) l.length l.length)).setCell ⟨w.heap.size + 1, 1, none⟩ (.slice none 0 0)).setCell ⟨w.heap.size + 1, 2, none⟩ (.int .i64 (-1))).setCell ⟨w.heap.size + 1, 3, none⟩ (.bool true)).heap[g]? = some (.cells (scells l).toArray 9 (0, 0)) := by
    repeat first | with_reducible exact HS.out | refine blk_other ?_ (by simp only; omega)
  exact ⟨some ⟨g, 0, none⟩, l.length, none, 0, by simp [dv, dcells], ⟨fresh_secs (w := w) hS, RowOf.nil, by simp only; omega, by simp, by simp⟩, by repeat first | with_reducible exact HB3.out | refine Below.setCell ?_ (by simp only; omega) _⟩

theorem cut_any (A : Option Addr) (c : Nat) (A' : Option Addr) (c' : Nat) (d : Dk) (w : World) (h : DiskAt w w.heap.size A c A' c' d) :
    Calls Try.prog 23 #[dv A c A' c' d] w (DiskEnd w (cutD d) (upE d)) := by
  have HU := Lib.hid (fun wx (hx : Below w.heap.size w wx) => up_any A c A' c' d wx (h.step hx))
  by_cases hu : upE d = 0
  · have e2 : cutD d = ⟨d.secs, [], -1, true⟩ := by unfold cutD; rw [if_pos hu]
    rw [hu, e2]
    exact cut_good A c A' c' d w h hu
  · have e2 : cutD d = nilD := by unfold cutD; rw [if_neg hu]
    rw [e2]
    exact cut_bad A _ c A' _ c' d.left d.down _ w HU hu

theorem start_bad (A : Option Addr) (n c : Nat) (A' : Option Addr) (n' c' : Nat) (left : Int) (down rr : Bool) (er : Int) (w : World)
    (HR : Hid (∀ wx, Below w.heap.size w wx → Calls Try.prog 33 #[.agg #[.slice A n c, .slice A' n' c', .int .i64 left, .bool down]] wx fun e w' => e = .returned (.bool rr) ∧ Below wx.heap.size wx w')) (h : (rr = false ∧ er = 1) ∨ (rr = true ∧ down = false ∧ er = 7)) :
    Calls Try.prog 25 #[.agg #[.slice A n c, .slice A' n' c', .int .i64 left, .bool down]] w (DiskEnd w nilD er) := by
  rcases h with ⟨rfl, rfl⟩ | ⟨rfl, rfl, rfl⟩
  all_goals
    go_enter Try.func25, Try.ntmps25
    go_wp2_with fail
    refine (HR.out _ (by repeat first | with_reducible exact Below.refl _ _ | refine Below.alloc ?_ (by simp <;> omega) _)).mono ?_
    rintro e w1 ⟨rfl, b1⟩
    obtain ⟨⟨k1, k2⟩, hb, hz⟩ := boxes2 b1 (by simp)
    obtain ⟨⟨a0, a1, a2, a3⟩, f0, f1, f2, f3⟩ := blk4 k2
    obtain ⟨⟨a4, a5, a6, a7⟩, f4⟩ := blk4 k1
    have HB := Lib.hid hb
    clear k1 k2 b1 hb f4
    go_wp2_with fail
    refine bodyPost_ret (v := .tuple #[dv none 0 none 0 nilD, .int .i64 _]) (by simp [results, Try.results25, go_sem, dv, dcells, nilD, *]) rfl (DiskEnd.none_ ?_)
    repeat first | with_reducible exact HB.out | refine Below.setCell ?_ (by simp only; omega) _

set_option maxHeartbeats 4000000 in
theorem start_good (A : Option Addr) (c : Nat) (A' : Option Addr) (c' : Nat) (d : Dk) (w : World) (h : DiskAt w w.heap.size A c A' c' d) (hu : rightB d = true) (hd : d.down = true) :
    Calls Try.prog 25 #[dv A c A' c' d] w (DiskEnd w { d with down := false } 0) := by
  have HR := Lib.hid (fun wx (hx : Below w.heap.size w wx) => by have := right_any A c A' c' d wx (h.step hx); rw [hu] at this; exact this)
  have hl1 := (right_head hu).2.1
  have hl2 := (right_head hu).2.2.1
  have HF := Lib.hid (fun wx (hx : Below w.heap.size w wx) => fresh_any A c A' c' d wx (h.step hx) hl1 hl2)
  obtain ⟨l, p, left, down⟩ := d
  unfold dv dcells at *
  simp only at *
  clear h hu
  subst hd
  go_enter Try.func25, Try.ntmps25
  go_wp2_with fail
  refine (HR.out _ (by repeat first | with_reducible exact Below.refl _ _ | refine Below.alloc ?_ (by simp <;> omega) _)).mono ?_
  rintro e w1 ⟨rfl, b1⟩
  obtain ⟨⟨k1, k2⟩, hb, hz⟩ := boxes2 b1 (by simp)
  obtain ⟨⟨a0, a1, a2, a3⟩, f0, f1, f2, f3⟩ := blk4 k1
  have K1 := Lib.hid k1
  have K2 := Lib.hid k2
  have HB := Lib.hid hb
  clear k1 k2 b1 hb
  go_wp2_with fail
  refine (HF.out _ HB.out).mono ?_
  rintro e w2 ⟨g, A2, c2, rfl, hf⟩
  have L1 := Lib.hid (blk_call K1.out hf.2.2.1.2.1)
  have L2 := Lib.hid (blk_call K2.out hf.2.2.1.2.1)
  have HN1 := Lib.hid (fresh_ne hf (k := w.heap.size) (by omega))
  have HN2 := Lib.hid (fresh_ne hf (k := w.heap.size + 1) (by omega))
  have H2 := Lib.hid (fresh_base hf HB.out)
  clear a0 a1 a2 a3 f0 f1 f2 f3 hf
  obtain ⟨⟨b0, b1, b2, b3⟩, f0, f1, f2, f3⟩ := blk4 L1.out
  obtain ⟨W3, hW3⟩ : ∃ W3, W3 = ((((w2.setCell ⟨w.heap.size, 0, none⟩ (.slice (some ⟨g, 0, none⟩) l.length l.length)).setCell ⟨w.heap.size, 1, none⟩ (.slice A2 p.length c2)).setCell ⟨w.heap.size, 2, none⟩ (.int .i64 left)).setCell ⟨w.heap.size, 3, none⟩ (.bool true)) := ⟨_, rfl⟩
  have H3 := Lib.hid (show FreshAt w W3 g A2 c2 ⟨l, p, left, true⟩ by rw [hW3]; exact ((((H2.out.set (p := ⟨w.heap.size, 0, none⟩) (Nat.le_refl _) HN1.out.2 HN1.out.1 (.slice (some ⟨g, 0, none⟩) l.length l.length)).set (p := ⟨w.heap.size, 1, none⟩) (Nat.le_refl _) HN1.out.2 HN1.out.1 (.slice A2 p.length c2)).set (p := ⟨w.heap.size, 2, none⟩) (Nat.le_refl _) HN1.out.2 HN1.out.1 (.int .i64 left)).set (p := ⟨w.heap.size, 3, none⟩) (Nat.le_refl _) HN1.out.2 HN1.out.1 (.bool true)))
  have M1 := Lib.hid (show W3.heap[w.heap.size]? = some (.cells #[.slice (some ⟨g, 0, none⟩) l.length l.length, .slice A2 p.length c2, .int .i64 left, .bool true] 25 (0, 0)) by rw [hW3]; exact set4 L1.out)
  have M2 := Lib.hid (show W3.heap[w.heap.size + 1]? = some (.cells #[.slice none 0 0, .slice none 0 0, .int .i64 0, .bool false] 25 (0, 0)) by rw [hW3]; exact blk_other (blk_other (blk_other (blk_other L2.out (by simp)) (by simp)) (by simp)) (by simp))
  have HW := Lib.hid hW3
  clear hW3
  go_upto_region 6 with fail
  rw [← HW.out]
  clear b0 b1 b2 b3 f0 f1 f2 f3
  obtain ⟨⟨b0, b1, b2, b3⟩, f0, f1, f2, f3⟩ := blk4 M1.out
  obtain ⟨⟨s0, s1, s2, s3⟩, sf0, sf1, sf2, sf3⟩ := blk4 M2.out
  go_wp2_with fail
  refine bodyPost_ret (v := .tuple #[.agg #[.slice (some ⟨g, 0, none⟩) l.length l.length, .slice A2 p.length c2, .int .i64 left, .bool false], .int .i64 0]) (by simp [results, Try.results25, go_sem, *]) rfl ?_
  have hF : FreshAt w (((((W3.setCell ⟨w.heap.size, 3, none⟩ (.bool false)).setCell ⟨w.heap.size + 1, 0, none⟩ (.slice (some ⟨g, 0, none⟩) l.length l.length)).setCell ⟨w.heap.size + 1, 1, none⟩ (.slice A2 p.length c2)).setCell ⟨w.heap.size + 1, 2, none⟩ (.int .i64 left)).setCell ⟨w.heap.size + 1, 3, none⟩ (.bool false)) g A2 c2 ⟨l, p, left, true⟩ := (((((H3.out.set (p := ⟨w.heap.size, 3, none⟩) (Nat.le_refl _) HN1.out.2 HN1.out.1 (.bool false)).set (p := ⟨w.heap.size + 1, 0, none⟩) (Nat.le_succ _) HN2.out.2 HN2.out.1 (.slice (some ⟨g, 0, none⟩) l.length l.length)).set (p := ⟨w.heap.size + 1, 1, none⟩) (Nat.le_succ _) HN2.out.2 HN2.out.1 (.slice A2 p.length c2)).set (p := ⟨w.heap.size + 1, 2, none⟩) (Nat.le_succ _) HN2.out.2 HN2.out.1 (.int .i64 left)).set (p := ⟨w.heap.size + 1, 3, none⟩) (Nat.le_succ _) HN2.out.2 HN2.out.1 (.bool false))
  have hD : DiskAt _ _ (some ⟨g, 0, none⟩) l.length A2 c2 ⟨l, p, left, false⟩ := fresh_disk (d := ⟨l, p, left, false⟩) hF hl1 hl2
  exact ⟨some ⟨g, 0, none⟩, l.length, A2, c2, by simp [dv, dcells], hD, hF.2.2.1.2.1⟩

theorem start_any (A : Option Addr) (c : Nat) (A' : Option Addr) (c' : Nat) (d : Dk) (w : World) (h : DiskAt w w.heap.size A c A' c' d) :
    Calls Try.prog 25 #[dv A c A' c' d] w (DiskEnd w (startD d) (startE d)) := by
  have HR := Lib.hid (fun wx (hx : Below w.heap.size w wx) => right_any A c A' c' d wx (h.step hx))
  cases hr : rightB d with
  | false =>
    have e1 : startE d = 1 := by unfold startE; rw [if_neg (by simp [hr])]
    have e2 : startD d = nilD := by unfold startD; rw [if_neg (by rw [e1]; decide)]
    rw [e1, e2]
    exact start_bad A _ c A' _ c' d.left d.down _ 1 w HR (.inl ⟨hr, rfl⟩)
  | true =>
    cases hd : d.down with
    | false =>
      have e1 : startE d = 7 := by unfold startE; rw [if_pos hr, if_neg (by simp [hd])]
      have e2 : startD d = nilD := by unfold startD; rw [if_neg (by rw [e1]; decide)]
      rw [e1, e2]
      exact start_bad A _ c A' _ c' d.left d.down _ 7 w HR (.inr ⟨hr, hd, rfl⟩)
    | true =>
      have e1 : startE d = 0 := by unfold startE; rw [if_pos hr, if_pos hd]
      have e2 : startD d = { d with down := false } := by unfold startD; rw [if_pos e1]
      rw [e1, e2]
      exact start_good A c A' c' d w h hr hd

end Go.Proofs.Ytlfiooenbgegkaa
