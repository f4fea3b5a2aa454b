/- The reference's New, and few, walked. -/
import Derived.Test.YtlfiooenbgegkaaDq2
namespace Go.Proofs.Ytlfiooenbgegkaa
open Go.RowKit Ds
set_option linter.unusedSimpArgs false
set_option linter.unusedVariables false

/-- a call that gives a flag and leaves the boxes -/
def FlagEnd (w : World) (e : Ending) (w' : World) : Prop := (∃ b : Bool, e = .returned (.bool b)) ∧ Below w.heap.size w w'

set_option maxHeartbeats 4000000 in
theorem few_any (A : Option Addr) (c : Nat) (A' : Option Addr) (c' : Nat) (d : Dk) (w : World) :
    Calls Try.prog 9 #[dv A c A' c' d] w (FlagEnd w) := by
  unfold dv dcells
  go_enter Try.func9, Try.ntmps9
  go_wp2_with fail
  all_goals
    go_ret
    exact ⟨⟨_, rfl⟩, (Below.refl _ _).alloc (Nat.le_refl _) _⟩

/-- the state of New's loop -/
def NewAt (w wr : World) (k : Nat) (z : ByteArray) : Prop :=
  ∃ A2 c2, wr.heap[w.heap.size + 1]? = some (.cells #[.slice A2 k c2, .slice none 0 0, .int .i64 (-1), .bool false] 25 (0, 0)) ∧ OwnS w wr (.slice A2 k c2) (List.replicate k z) ∧
    wr.heap[w.heap.size]? = some (.cells #[.slice none 0 0, .slice none 0 0, .int .i64 0, .bool false] 25 (0, 0))

theorem new_next {w w5 : World} {j : Nat} {A2 A4 : Option Addr} {c2 c4 : Nat} {z : ByteArray}
    (HV : Hid (Own w w5 9 1 (.slice A4 (j + 1) c4) (j + 1) ((List.replicate j z).map Value.string ++ (#[.string z] : Array Value).toList)))
    (M1 : Hid (w5.heap[w.heap.size + 1]? = some (.cells #[.slice A2 j c2, .slice none 0 0, .int .i64 (-1), .bool false] 25 (0, 0))))
    (M3 : Hid (w5.heap[w.heap.size]? = some (.cells #[.slice none 0 0, .slice none 0 0, .int .i64 0, .bool false] 25 (0, 0)))) :
    Hid (NewAt w (w5.setCell ⟨w.heap.size + 1, 0, none⟩ (.slice A4 (j + 1) c4)) (j + 1) z) := by
  refine Lib.hid ⟨A4, c4, blk_set M1.out, ?_, blk_other M3.out (by simp)⟩
  have e : (List.replicate (j + 1) z).map Value.string = (List.replicate j z).map Value.string ++ (#[.string z] : Array Value).toList := by simp [List.replicate_succ']
  unfold OwnS
  rw [e, List.length_replicate]
  exact HV.out.setCell (by simp) (own_ne HV.out M1.out (by decide)) _

set_option maxHeartbeats 4000000 in
theorem rnew_any (n : Int) (w : World) (h0 : -9223372036854775808 ≤ n) (h1 : n ≤ 9223372036854775807) :
    Calls Try.prog 11 #[.int .i64 n] w (DiskEnd w (newD n) (newE n)) := by
  by_cases h : 1 ≤ n ∧ n ≤ 512
  · obtain ⟨k, rfl⟩ : ∃ k : Nat, n = k := ⟨n.toNat, by omega⟩
    have e1 : newE k = 0 := by unfold newE; rw [if_pos h]
    have e2 : newD k = ⟨List.replicate k (zeros 16), [], -1, false⟩ := by unfold newD; rw [if_pos h]; simp
    rw [e1, e2]
    have hk1 : 1 ≤ k := by omega
    have hk2 : k ≤ 512 := by omega
    have HZ := Lib.hid (fun w => rzeros_any 16 w (by omega))
    have h16 : ((16 : Nat) : Int) = 16 := rfl
    rw [h16] at HZ
    generalize zeros 16 = z at *
    clear e1 e2 h0 h1 h h16
    have HN : Hid (NewAt w ((w.alloc (.cells #[.slice none 0 0, .slice none 0 0, .int .i64 0, .bool false] 25)).alloc (.cells #[.slice none 0 0, .slice none 0 0, .int .i64 (-1), .bool false] 25)) 0 z) :=
      Lib.hid ⟨none, 0, by have := blk_new (w.alloc (.cells #[.slice none 0 0, .slice none 0 0, .int .i64 0, .bool false] 25)) (.cells #[.slice none 0 0, .slice none 0 0, .int .i64 (-1), .bool false] 25); rw [World.size_alloc] at this; exact this, Own.nil_at (((Below.refl _ _).alloc (Nat.le_refl _) _).alloc (by simp) _), blk_old (blk_new _ _)⟩
    go_enter Try.func11, Try.ntmps11
    go_wp2_with fail
    go_loopw [5] (fun i wr => ∃ j : Nat, i = .int .i64 j ∧ j ≤ k ∧ Hid (NewAt w wr j z)) (fun i _ => k - (intOf i).toNat)
    case atStart => exact ⟨0, rfl, by omega, HN⟩
    case round =>
      obtain ⟨j, rfl, hj, HJ⟩ := hrel
      obtain ⟨A2, c2, j1, j2, j3⟩ := HJ.out
      have J1 := Lib.hid j1
      have J2 := Lib.hid j2
      have J3 := Lib.hid j3
      obtain ⟨⟨a0, a1, a2, a3⟩, f0, f1, f2, f3⟩ := blk4 j1
      have hlt0 := blk_lt j1
      clear j1 j2 j3 HJ HN
      by_cases hlt : j < k
      · have O2 := Lib.hid (show ∀ u ∈ (#[.string z] : Array Value).toList, u.oneCell' = true by intro u hu; simp at hu; rcases hu with rfl; rfl)
        have JO : Hid (Own w wr 9 1 (.slice A2 j c2) j ((List.replicate j z).map Value.string)) := Lib.hid (by have := J2.out; unfold OwnS at this; rw [List.length_replicate] at this; exact this)
        have hz3 : j + 1 ≤ maxLen := by unfold maxLen; omega
        have hz4 : (j + 1) * 16 ≤ 140737488355328 := by omega
        have JOd := Lib.hid (Own.below JO.out (show Below wr.heap.size wr wr.drew from (Below.refl _ _).drew))
        have HNE := Lib.hid (own_ne JO.out J1.out (by decide))
        have HNE3 := Lib.hid (own_ne JO.out J3.out (by decide))
        go_upto_region 7 with fail
        go_region_law (first
          | (go_simp; go_at_call 32; refine (HZ.out _).mono ?_; rintro e wt ⟨rfl, rfl⟩)
          | (refine step_own_blk (Lib.hid (JOd.out.alloc _)) (Lib.hid (heap_alloc_new _ _)) rfl O2 22 _ 16 Try.underlying22 str_info rfl (by decide) hz3 hz4 rfl (.tmp 20) (.tmp 22) rfl (by simp [go_sem]) (by simp [go_sem]) ?_
             intro v5 w5 HV HK5
             obtain ⟨A4, c4, rfl⟩ := HV.out.form
             have M1v := Lib.hid ((HK5.out _ (blk_lt (blk_old (w := wr.drew) J1.out)) HNE.out).trans (blk_old (w := wr.drew) J1.out))
             have M3v := Lib.hid ((HK5.out _ (blk_lt (blk_old (w := wr.drew) J3.out)) HNE3.out).trans (blk_old (w := wr.drew) J3.out))
             obtain ⟨⟨t0, t1, t2, t3⟩, tf0, tf1, tf2, tf3⟩ := blk4 M1v.out))
        all_goals
          go_wp2_with fail
          go_roundw
          case rel => exact ⟨j + 1, by go_num, by omega, new_next HV M1v M3v⟩
          case measure => simp [intOf]; omega
      · obtain rfl : j = k := by omega
        have hv := J2.out
        have hv2 : Own w wr 9 1 (.slice A2 j c2) j ((List.replicate j z).map Value.string) := by unfold OwnS at hv; rw [List.length_replicate] at hv; exact hv
        obtain ⟨g, rfl, hg0, hg1, hg2, _⟩ := hv2.cells (by omega)
        obtain ⟨⟨s0, s1, s2, s3⟩, sf0, sf1, sf2, sf3⟩ := blk4 J3.out
        have HNE3 := Lib.hid (own_ne hv2 J3.out (by decide))
        have HH := Lib.hid hv
        clear hv hv2
        go_wp2_with fail
        refine bodyPost_ret (v := .tuple #[.agg #[.slice (some ⟨g, 0, none⟩) j c2, .slice none 0 0, .int .i64 (-1), .bool false], .int .i64 0]) (by simp [results, Try.results11, go_sem, *]) rfl ?_
        have hO : OwnS w ((((wr.setCell ⟨w.heap.size, 0, none⟩ (.slice (some ⟨g, 0, none⟩) j c2)).setCell ⟨w.heap.size, 1, none⟩ (.slice none 0 0)).setCell ⟨w.heap.size, 2, none⟩ (.int .i64 (-1))).setCell ⟨w.heap.size, 3, none⟩ (.bool false)) (.slice (some ⟨g, 0, none⟩) j c2) (List.replicate j z) := by
          exact ((((HH.out.setCell (p := ⟨w.heap.size, 0, none⟩) (Nat.le_refl _) HNE3.out (.slice (some ⟨g, 0, none⟩) j c2)).setCell (p := ⟨w.heap.size, 1, none⟩) (Nat.le_refl _) HNE3.out (.slice none 0 0)).setCell (p := ⟨w.heap.size, 2, none⟩) (Nat.le_refl _) HNE3.out (.int .i64 (-1))).setCell (p := ⟨w.heap.size, 3, none⟩) (Nat.le_refl _) HNE3.out (.bool false))
        exact ⟨some ⟨g, 0, none⟩, c2, none, 0, by simp [dv, dcells], ⟨owns_row' hO, RowOf.nil, by simp; omega, by simp, by simp⟩, hO.2.1⟩
  · have e1 : newE n = 1 := by unfold newE; rw [if_neg h]
    have e2 : newD n = nilD := by unfold newD; rw [if_neg h]
    rw [e1, e2]
    clear e1 e2
    rcases (by omega : n < 1 ∨ (1 ≤ n ∧ 512 < n)) with h | ⟨h, h2⟩
    all_goals
      go_enter Try.func11, Try.ntmps11
      go_wp2_with fail
      refine bodyPost_ret (v := .tuple #[dv none 0 none 0 nilD, .int .i64 1]) (by simp [results, Try.results11, go_sem, dv, dcells, nilD]) rfl (DiskEnd.none_ ?_)
      repeat first | with_reducible exact Below.refl _ _ | refine Below.setCell ?_ (by simp) _ | refine Below.alloc ?_ (by simp) _

end Go.Proofs.Ytlfiooenbgegkaa
