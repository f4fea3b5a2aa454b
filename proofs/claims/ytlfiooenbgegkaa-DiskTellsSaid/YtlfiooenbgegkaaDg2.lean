/- Write of what is right, walked. -/
import Derived.Test.YtlfiooenbgegkaaDg
import Derived.Test.YtlfiooenbgegkaaDLaw
namespace Go.Proofs.Ytlfiooenbgegkaa
open Go.RowKit Ds
set_option linter.unusedSimpArgs false
set_option linter.unusedVariables false

theorem own_step {W wx X w' : World} {e : TypeId} {size n B : Nat} {v : Value} {xs : List Value} (h : Own W wx e size v n xs) (hd : Below wx.heap.size wx X) (k : Below B X w') (hB : B = X.heap.size) : Own W w' e size v n xs := by
  subst hB
  exact h.below (hd.trans (k.mono hd.size))
theorem blk_step {wx X w' : World} {g B : Nat} {o : Obj} (h : wx.heap[g]? = some o) (hd : Below wx.heap.size wx X) (k : Below B X w') (hB : B = X.heap.size) : w'.heap[g]? = some o := by
  subst hB
  exact blk_call (blk_call h hd) k

theorem write_met {w w5 : World} {g : Nat} {A4 : Option Addr} {c4 : Nat} {l : List ByteArray} {p : List Wr} {left : Int} {down : Bool} {k : Int} {t : ByteArray} {x1 : Value}
    (HV : Hid (Own w w5 44 2 (.slice A4 (p.length + 1) c4) (p.length + 1) (wcells p ++ (#[.int .i64 k, .string t] : Array Value).toList)))
    (M1 : Hid (w5.heap[w.heap.size]? = some (.cells #[.slice (some ⟨g, 0, none⟩) l.length l.length, x1, .int .i64 left, .bool down] 25 (0, 0))))
    (M2 : Hid (w5.heap[w.heap.size + 1]? = some (.cells #[.slice none 0 0, .slice none 0 0, .int .i64 0, .bool false] 25 (0, 0))))
    (M3 : Hid (w5.heap[g]? = some (.cells (scells l).toArray 9 (0, 0)))) (hg : w.heap.size + 1 + 1 ≤ g) :
    Hid ((w5.setCell ⟨w.heap.size, 1, none⟩ (.slice A4 (p.length + 1) c4)).heap[w.heap.size]? = some (.cells #[.slice (some ⟨g, 0, none⟩) l.length l.length, .slice A4 (p.length + 1) c4, .int .i64 left, .bool down] 25 (0, 0))) ∧
    Hid ((w5.setCell ⟨w.heap.size, 1, none⟩ (.slice A4 (p.length + 1) c4)).heap[w.heap.size + 1]? = some (.cells #[.slice none 0 0, .slice none 0 0, .int .i64 0, .bool false] 25 (0, 0))) ∧
    Hid (FreshAt w (w5.setCell ⟨w.heap.size, 1, none⟩ (.slice A4 (p.length + 1) c4)) g A4 c4 ⟨l, p ++ [⟨k, t⟩], left, down⟩) := by
  refine ⟨Lib.hid (blk_set M1.out), Lib.hid (blk_other M2.out (by simp)), Lib.hid ⟨by omega, blk_other M3.out (by simp only; omega), ?_, ?_⟩⟩
  · simp only [List.length_append, List.length_cons, List.length_nil]
    have e : wcells (p ++ [⟨k, t⟩]) = wcells p ++ (#[.int .i64 k, .string t] : Array Value).toList := by simp [wcells, wcell]
    rw [e]
    exact HV.out.setCell (Nat.le_refl _) (own_ne HV.out M1.out (by decide)) _
  · simp only [List.length_append, List.length_cons, List.length_nil]
    exact own_ne HV.out M3.out (by decide)

set_option maxHeartbeats 4000000 in
theorem write_good (A : Option Addr) (c : Nat) (A' : Option Addr) (c' : Nat) (d : Dk) (k : Int) (s : ByteArray) (w : World) (h : DiskAt w w.heap.size A c A' c' d) (hu : upE d = 0) (h0 : 0 ≤ k) (h1 : k < d.secs.length) (hs : s.size ≤ 16) (hp : d.pend.length < 512) :
    Calls Try.prog 17 #[dv A c A' c' d, .int .i64 k, .string s] w (DiskEnd w { d with pend := d.pend ++ [⟨k, pad s⟩] } 0) := by
  have HU := Lib.hid (fun wx (hx : Below w.heap.size w wx) => by have := up_any A c A' c' d wx (h.step hx); rw [hu] at this; exact this)
  have hl1 := (right_head (upE_zero.1 hu).1).2.1
  have HF := Lib.hid (fun wx (hx : Below w.heap.size w wx) => fresh_any A c A' c' d wx (h.step hx) hl1 (by omega))
  have HR := Lib.hid (fun wx => repeat_pad s hs wx)
  have hpad : pad s = s ++ zeros (16 - s.size) := rfl
  rw [hpad]
  obtain ⟨l, p, left, down⟩ := d
  unfold dv dcells at *
  simp only at *
  clear h hu hpad
  have hzz : (zeros (16 - s.size)).size ≤ 16 := by rw [zeros_size]; omega
  have hzn : ¬ 9223372036854775807 < s.size + (zeros (16 - s.size)).size := by omega
  generalize zeros (16 - s.size) = z at *
  have e1 : IntKind.i64.wrap (16 - (s.size : Int)) = 16 - (s.size : Int) := by rw [IntKind.wrap_i64]; omega
  have hp2 : ((p.length : Int) == 512) = false := by simp; omega
  go_enter Try.func17, Try.ntmps17
  go_wp2_with fail
  refine (HU.out _ (by repeat first | with_reducible exact Below.refl _ _ | refine Below.alloc ?_ (by simp <;> omega) _)).mono ?_
  rintro e w1 ⟨rfl, b1⟩
  obtain ⟨⟨k1, k2⟩, hb, hz⟩ := boxes2 b1 (by simp)
  obtain ⟨⟨a0, a1, a2, a3⟩, f0, f1, f2, f3⟩ := blk4 k1
  have K1 := Lib.hid k1
  have K2 := Lib.hid k2
  have HB := Lib.hid hb
  clear k1 k2 b1 hb
  go_wp2_with fail
  refine (HF.out _ HB.out).mono ?_
  rintro e w2 ⟨g, A2, c2, rfl, hf⟩
  have L1 := Lib.hid (blk_call K1.out hf.2.2.1.2.1)
  have L2 := Lib.hid (blk_call K2.out hf.2.2.1.2.1)
  clear a0 a1 a2 a3 f0 f1 f2 f3
  obtain ⟨⟨b0, b1, b2, b3⟩, f0, f1, f2, f3⟩ := blk4 L1.out
  obtain ⟨W3, hW3⟩ : ∃ W3, W3 = (((w2.setCell ⟨w.heap.size, 0, none⟩ (.slice (some ⟨g, 0, none⟩) l.length l.length)).setCell ⟨w.heap.size, 1, none⟩ (.slice A2 p.length c2)).setCell ⟨w.heap.size, 2, none⟩ (.int .i64 left)).setCell ⟨w.heap.size, 3, none⟩ (.bool down) := ⟨_, rfl⟩
  have hne := fresh_ne hf (k := w.heap.size) (by omega)
  have hF3 : FreshAt w W3 g A2 c2 ⟨l, p, left, down⟩ := by
    rw [hW3]
    have hf' := fresh_base hf HB.out
    exact (((hf'.set (p := ⟨w.heap.size, 0, none⟩) (Nat.le_refl _) hne.2 hne.1 _).set (p := ⟨w.heap.size, 1, none⟩) (Nat.le_refl _) hne.2 hne.1 _).set (p := ⟨w.heap.size, 2, none⟩) (Nat.le_refl _) hne.2 hne.1 _).set (p := ⟨w.heap.size, 3, none⟩) (Nat.le_refl _) hne.2 hne.1 _
  have K13 : W3.heap[w.heap.size]? = some (.cells #[.slice (some ⟨g, 0, none⟩) l.length l.length, .slice A2 p.length c2, .int .i64 left, .bool down] 25 (0, 0)) := by rw [hW3]; exact set4 L1.out
  have K23 : W3.heap[w.heap.size + 1]? = some (.cells #[.slice none 0 0, .slice none 0 0, .int .i64 0, .bool false] 25 (0, 0)) := by rw [hW3]; exact blk_other (blk_other (blk_other (blk_other L2.out (by simp)) (by simp)) (by simp)) (by simp)
  have H3 := Lib.hid hF3
  have M1 := Lib.hid K13
  have M2 := Lib.hid K23
  have HW := Lib.hid hW3
  have hg : w.heap.size + 1 + 1 ≤ g := Nat.le_trans hz hf.1
  have hn2 := fresh_ne hf (k := w.heap.size + 1) (by omega)
  have HN1 := Lib.hid hne.1
  have HN2 := Lib.hid hn2.1
  clear hf hne hF3 K23 hW3 hn2
  have O2 := Lib.hid (show ∀ u ∈ (#[.int .i64 k, .string (s ++ z)] : Array Value).toList, u.oneCell' = true by intro u hu; simp at hu; rcases hu with rfl | rfl <;> rfl)
  have hz3 : p.length + 1 ≤ maxLen := by unfold maxLen; omega
  have hz4 : (p.length + 1) * 24 ≤ 140737488355328 := by omega
  have HW3 := Lib.hid (show Below W3.heap.size W3 W3 from Below.refl _ _)
  clear K13
  go_upto_region 9 with fail
  rw [← HW.out]
  clear b0 b1 b2 b3 f0 f1 f2 f3
  obtain ⟨⟨d0, d1, d2, d3⟩, ff0, ff1, ff2, ff3⟩ := blk4 M1.out
  go_cut [] (fun wr => ∃ A4 c4, Hid (wr.heap[w.heap.size]? = some (.cells #[.slice (some ⟨g, 0, none⟩) l.length l.length, .slice A4 (p.length + 1) c4, .int .i64 left, .bool down] 25 (0, 0))) ∧
    Hid (wr.heap[w.heap.size + 1]? = some (.cells #[.slice none 0 0, .slice none 0 0, .int .i64 0, .bool false] 25 (0, 0))) ∧ Hid (FreshAt w wr g A4 c4 ⟨l, p ++ [⟨k, s ++ z⟩], left, down⟩))
  case first =>
    go_region_law (first
      | (go_simp; go_at_call 31; refine (HR.out _).mono ?_; rintro e wt ⟨rfl, bt⟩
         have M1t := Lib.hid (blk_step M1.out (by repeat first | with_reducible exact Below.refl _ _ | refine below_drewN ?_ _ | refine Below.drew ?_) bt rfl)
         obtain ⟨⟨d0, d1, d2, d3⟩, ff0, ff1, ff2, ff3⟩ := blk4 M1t.out
         have M2t := Lib.hid (blk_step M2.out (by repeat first | with_reducible exact Below.refl _ _ | refine below_drewN ?_ _ | refine Below.drew ?_) bt rfl)
         have M3t := Lib.hid (blk_step H3.out.2.1 (by repeat first | with_reducible exact Below.refl _ _ | refine below_drewN ?_ _ | refine Below.drew ?_) bt rfl)
         have hltt := blk_lt M1t.out
         have HO := Lib.hid (own_step H3.out.2.2.1 (by repeat first | with_reducible exact Below.refl _ _ | refine below_drewN ?_ _ | refine Below.drew ?_) bt rfl))
      | (refine step_own_blk (Lib.hid (HO.out.alloc _)) (Lib.hid (heap_alloc_new _ _)) rfl O2 23 _ 24 Try.underlying23 wr_info rfl (by decide) hz3 hz4 rfl (.tmp 38) (.tmp 47) rfl (by simp [go_sem]) (by simp [go_sem]) ?_
         intro v5 w5 HV HK5
         obtain ⟨A4, c4, rfl⟩ := HV.out.form
         have M1v := Lib.hid ((HK5.out _ (blk_lt (blk_old M1t.out)) HN1.out).trans (blk_old M1t.out))
         have M2v := Lib.hid ((HK5.out _ (blk_lt (blk_old M2t.out)) HN2.out).trans (blk_old M2t.out))
         have M3v := Lib.hid ((HK5.out _ (blk_lt (blk_old M3t.out)) H3.out.2.2.2).trans (blk_old M3t.out))
         obtain ⟨⟨t0, t1, t2, t3⟩, tf0, tf1, tf2, tf3⟩ := blk4 M1v.out))
    all_goals
      go_wp2_with fail
      go_meet
      exact ⟨A4, c4, write_met HV M1v M2v M3v hg⟩
  case rest =>
    obtain ⟨A4, c4, R1, R2, R3⟩ := hcut
    obtain ⟨⟨t0, t1, t2, t3⟩, tf0, tf1, tf2, tf3⟩ := blk4 R1.out
    obtain ⟨⟨s0, s1, s2, s3⟩, sf0, sf1, sf2, sf3⟩ := blk4 R2.out
    clear d0 d1 d2 d3 ff0 ff1 ff2 ff3
    have hne := own_ne R3.out.2.2.1 R2.out (by decide)
    have HN3 := Lib.hid hne
    clear hne
    go_wp2_with fail
    refine bodyPost_ret (v := .tuple #[.agg #[.slice (some ⟨g, 0, none⟩) l.length l.length, .slice A4 (p.length + 1) c4, .int .i64 left, .bool down], .int .i64 0]) (by simp [results, Try.results17, go_sem, *]) rfl ?_
    have hF : FreshAt w ((((wc.setCell ⟨w.heap.size + 1, 0, none⟩ (.slice (some ⟨g, 0, none⟩) l.length l.length)).setCell ⟨w.heap.size + 1, 1, none⟩ (.slice A4 (p.length + 1) c4)).setCell ⟨w.heap.size + 1, 2, none⟩ (.int .i64 left)).setCell ⟨w.heap.size + 1, 3, none⟩ (.bool down)) g A4 c4 ⟨l, p ++ [⟨k, s ++ z⟩], left, down⟩ := by
      repeat first | with_reducible exact R3.out | refine FreshAt.set ?_ (by simp only; omega) (by simp only; omega) HN3.out _
    exact ⟨some ⟨g, 0, none⟩, l.length, A4, c4, by simp [dv, dcells], fresh_disk hF hl1 (by simp; omega), hF.2.2.1.2.1⟩

theorem write_any (A : Option Addr) (c : Nat) (A' : Option Addr) (c' : Nat) (d : Dk) (k : Int) (s : ByteArray) (w : World) (h : DiskAt w w.heap.size A c A' c' d) :
    Calls Try.prog 17 #[dv A c A' c' d, .int .i64 k, .string s] w (DiskEnd w (writeD d k s) (writeE d k s)) := by
  have HU := Lib.hid (fun wx (hx : Below w.heap.size w wx) => up_any A c A' c' d wx (h.step hx))
  by_cases hu : upE d = 0
  · by_cases hin : inB d k = true ∧ s.size ≤ 16
    · by_cases hp : d.pend.length = 512
      · have e1 : writeE d k s = 6 := by unfold writeE; rw [if_pos hu, if_pos hin, if_pos hp]
        have e2 : writeD d k s = nilD := by unfold writeD; rw [if_neg (by rw [e1]; decide)]
        rw [e1, e2]
        rw [hu] at HU
        obtain ⟨hin, hs⟩ := hin
        simp only [inB, Bool.and_eq_true, decide_eq_true_eq] at hin
        exact write_out A _ c A' _ c' d.left d.down k s 6 w HU (.inr (.inr (.inr ⟨hin.1, hin.2, hs, hp, rfl⟩)))
      · have e1 : writeE d k s = 0 := by unfold writeE; rw [if_pos hu, if_pos hin, if_neg hp]
        rw [e1, writeD_ok e1]
        obtain ⟨hin, hs⟩ := hin
        simp only [inB, Bool.and_eq_true, decide_eq_true_eq] at hin
        have := (right_head (upE_zero.1 hu).1).2.2.1
        exact write_good A c A' c' d k s w h hu hin.1 hin.2 hs (by omega)
    · have e1 : writeE d k s = 1 := by unfold writeE; rw [if_pos hu, if_neg hin]
      have e2 : writeD d k s = nilD := by unfold writeD; rw [if_neg (by rw [e1]; decide)]
      rw [e1, e2]
      rw [hu] at HU
      refine write_out A _ c A' _ c' d.left d.down k s 1 w HU ?_
      by_cases h0 : k < 0
      · exact .inl ⟨h0, rfl⟩
      · by_cases h2 : (d.secs.length : Int) ≤ k
        · exact .inr (.inl ⟨by omega, h2, rfl⟩)
        · refine .inr (.inr (.inl ⟨by omega, by omega, ?_, rfl⟩))
          have : inB d k = true := by simp [inB]; omega
          simp only [this, true_and] at hin
          omega
  · have e1 : writeE d k s = upE d := by unfold writeE; rw [if_neg hu]
    have e2 : writeD d k s = nilD := by unfold writeD; rw [if_neg (by rw [e1]; exact hu)]
    rw [e1, e2]
    exact write_bad A _ c A' _ c' d.left d.down k s _ w HU hu

end Go.Proofs.Ytlfiooenbgegkaa
