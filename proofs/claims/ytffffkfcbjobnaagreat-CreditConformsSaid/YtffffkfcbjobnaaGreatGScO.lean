/- Walks by the logic of calls, and plain laws. -/
import Derived.Test.YtffffkfcbjobnaaGreatGScN
namespace Go.Gh
open Go Go.Proofs
set_option maxRecDepth 1000000
set_option maxHeartbeats 2000000
set_option linter.unusedSimpArgs false
set_option linter.unusedVariables false
open Go.RowKit

theorem readT_getD {fs : List Fl} {i : Nat} : ∀ {k : Nat}, k < fs.length → (readT fs i).getD k default = textF (fs.getD k default) (i / tot (fs.drop (k + 1)) % sz (fs.getD k default).words) := by
  induction fs with
  | nil => intro k h; simp at h
  | cons f fs ih =>
    intro k h
    cases k with
    | zero => rfl
    | succ k => exact ih (by simpa using h)
theorem tot_drop_le {fs : List Fl} (hg : ∀ f, f ∈ fs → Good f) : ∀ k, tot (fs.drop k) ≤ tot fs := by
  induction fs with
  | nil => intro k; simp
  | cons f fs ih =>
    intro k
    cases k with
    | zero => exact Nat.le_refl _
    | succ k =>
      have h1 := ih (fun x hx => hg x (List.mem_cons_of_mem _ hx)) k
      have h2 := (hg f List.mem_cons_self).sz.1
      show tot (fs.drop k) ≤ sz f.words * tot fs
      have : 1 * tot fs ≤ sz f.words * tot fs := Nat.mul_le_mul_right _ h2
      omega

theorem rread_ok (d : Dc) (hd : Fit d) (i : Int) : GC Tryz.prog 173 [dcG d, iG i] (.tup [pnG (readE d i).1, iG (readE d i).2]) := by
  have hd2 := hd.fields
  have hcl := countE_le d
  refine gc_of_gk Tryz.func173 ?_
  refine gk_region env false [] [1, 2, 4, 5] ?_ -- 0
  refine gk_region env false [.call (rcount_ok d hd)] [1, 2, 4, 5, 6, 7] ?_ -- 1
  refine gk_region env false [] [1, 2, 4, 5, 6, 7, 16] ?_ -- 2
  refine gk_ifn (fun c1 => ?_) (fun c1 => ?_)
  · try simp only [toN] at c1
    refine gk_region env false [] [1, 2, 4, 5, 6] ?_ -- 3
    refine gk_retE env ?_
    rw [readE, if_neg c1]; exact Ent.tup ⟨ent_pn0, Ent.refl _, trivial⟩
  · try simp only [toN] at c1
    refine gk_region env false [] [1, 2, 4, 5, 6, 25] ?_ -- 4
    refine gk_if (fun c2 => ?_) (fun c2 => ?_)
    · try simp only [bb, toN] at c2
      refine gk_region env false [] [1, 2, 4, 5, 6] ?_ -- 5
      refine gk_retE env ?_
      rw [readE, if_pos c1, if_neg (by omega)]; exact Ent.tup ⟨ent_pn0, Ent.refl _, trivial⟩
    · try simp only [bb, toN] at c2
      obtain ⟨hr, hct, htt⟩ := countE_yes c1
      have hin : 0 ≤ i ∧ i < (countE d).1 := by omega
      obtain ⟨m, rfl⟩ : ∃ m : Nat, i = m := ⟨i.toNat, by omega⟩
      have hmt : m < tot d.fields := by omega
      simp only [hct]
      refine gk_region env false [] [1, 2, 4, 5, 6, 8] ?_ -- 6
      refine gk_nilB 2 1 9 1 (default : ByteArray) strC ?_
      refine gk_nilB 2 2 9 1 (default : ByteArray) strC ?_
      refine gk_region env false [] [1, 2, 4, 5, 6, 8, 9] ?_ -- 7
      refine gk_loop (α := Nat) (fun k => k ≤ d.fields.length) (fun k => [(9, iG k), (6, iG (tot (d.fields.drop k))), (1, iG ((m % tot (d.fields.drop k) : Nat)))]) (fun k => [(2, some (.box [sG d.kind, .sl 3 1 0 k, .sl 4 1 0 k])), (3, some (.row 9 1 default strC ((d.fields.take k).map (·.name)) 0)), (4, some (.row 9 1 default strC ((readT d.fields m).take k) 0))]) (fun k => d.fields.length - k) 0 (Nat.zero_le _) ?_ (hp := by simp [AllP, Nat.mod_eq_of_lt hmt]) -- loop 8
      rintro k hk
      refine gk_region env false [] [1, 2, 4, 5, 6, 8, 9, 34] ?_ -- 8
      refine gk_ifd (fun c3 => ?_) (fun c3 => ?_)
      · try simp only [toN] at c3
        have hk1 : k < d.fields.length := by omega
        have hg := hr.good (d.fields.getD k default) (getD_mem hk1)
        have hgs := hg.sz
        have hz := tot_at hk1
        have h1 : 1 ≤ tot (d.fields.drop (k + 1)) := tot_pos fun f hf => hr.good f (List.mem_of_mem_drop hf)
        have htl := tot_drop_le hr.good k
        have htl2 := tot_drop_le hr.good (k + 1)
        have hrg := readT_getD (i := m) hk1
        have hat : m % tot (d.fields.drop k) / tot (d.fields.drop (k + 1)) = m / tot (d.fields.drop (k + 1)) % sz (d.fields.getD k default).words := by rw [hz]; exact Nat.mod_mul_left_div_self ..
        have har : m % tot (d.fields.drop k) % tot (d.fields.drop (k + 1)) = m % tot (d.fields.drop (k + 1)) := by rw [hz]; exact Nat.mod_mul_left_mod ..
        have hrr : (tot (d.fields.drop k) : Int) / (sz (d.fields.getD k default).words : Int) = (tot (d.fields.drop (k + 1)) : Int) := by rw [hz, Int.natCast_mul, Int.mul_ediv_cancel_left _ (by omega)]
        have hlt := Nat.mod_lt (m / tot (d.fields.drop (k + 1))) (show 0 < sz (d.fields.getD k default).words by omega)
        rw [← hat] at hlt hrg
        have hq : ((m % tot (d.fields.drop k) : Nat) : Int) / (tot (d.fields.drop (k + 1)) : Int) = ((m % tot (d.fields.drop k) / tot (d.fields.drop (k + 1)) : Nat) : Int) := (Int.natCast_ediv _ _).symm
        have hm : ((m % tot (d.fields.drop k) : Nat) : Int) % (tot (d.fields.drop (k + 1)) : Int) = ((m % tot (d.fields.drop (k + 1)) : Nat) : Int) := by rw [← Int.natCast_emod, har]
        have hml : m % tot (d.fields.drop k) ≤ m := Nat.mod_le _ _
        have htk := take_getD hk1
        have htr := take_getD (show k < (readT d.fields m).length by rw [readT_length]; exact hk1)
        have hrl := readT_length d.fields m
        refine gk_region env false [.call (rsize_ok (d.fields.getD k default) hg)] [1, 2, 4, 5, 6, 8, 9] ?_ (hp := (by simp only [AllP, bb, toN, hrr]; repeat' first | exact trivial | exact EntL.refl _ | exact rfl | omega | apply And.intro | intro _)) -- 10
        simp only [Int.toNat_natCast, hrr]
        refine gk_region env false [.el default strC [(d.fields.getD k default).name], .el default strC ((d.fields.take k).map (·.name) ++ [(d.fields.getD k default).name])] [1, 2, 4, 5, 6, 8, 9] ?_ (hp := (by simp only [AllP, obP, Int.toNat_natCast, List.length_map, List.length_take]; repeat' first | exact trivial | exact EntL.refl _ | exact BEntL.refl _ | exact rfl | omega | (simp only [List.length_append, List.length_cons, List.length_nil, List.length_map, List.length_take, readT_length]; omega) | apply And.intro | intro _ | (simp [rowL, strC]; done))) -- 11
        refine gk_region env false [.call (rtext_ok (d.fields.getD k default) hg (m % tot (d.fields.drop k) / tot (d.fields.drop (k + 1))) hlt), .el default strC [(readT d.fields m).getD k default], .el default strC ((readT d.fields m).take k ++ [(readT d.fields m).getD k default])] [1, 2, 4, 5, 6, 8, 9] ?_ (hp := (by simp only [AllP, obP, Int.toNat_natCast, List.length_take, hq, ← hrg]; generalize m % tot (d.fields.drop k) / tot (d.fields.drop (k + 1)) = y at hlt; generalize m % tot (d.fields.drop k) = A at hml ⊢; repeat' first | exact trivial | exact EntL.refl _ | exact BEntL.refl _ | exact rfl | omega | (simp only [List.length_append, List.length_cons, List.length_nil, List.length_map, List.length_take, readT_length]; omega) | apply And.intro | intro _ | (simp [rowL, strC]; done))) -- 12
        refine gk_region env false [] [1, 2, 4, 5, 6, 8, 9] ?_ (hp := (by simp only [AllP, bb, toN]; generalize m % tot (d.fields.drop k) = A at hml ⊢; repeat' first | exact trivial | exact EntL.refl _ | exact rfl | omega | apply And.intro | intro _)) -- 13
        refine gk_region env false [] [1, 2, 4, 5, 6, 8, 9] ?_ -- 9
        refine gk_round (k + 1) ?_ (hp := by simp only [AllP, hm, htk, htr]; simp <;> omega)
        omega
      · try simp only [toN] at c3
        refine gk_region env false [] [4, 5] ?_ -- 14
        refine gk_ret env ?_ (hp := by have := readT_length d.fields m; simp only [AllP, List.length_map, List.length_take]; omega)
        obtain rfl : k = d.fields.length := by omega
        rw [readE, if_pos c1, if_pos hin, Int.toNat_natCast, readP_eq, List.take_of_length_le (Nat.le_refl _), List.take_of_length_le (by rw [readT_length]; exact Nat.le_refl _)]; rfl
end Go.Gh
