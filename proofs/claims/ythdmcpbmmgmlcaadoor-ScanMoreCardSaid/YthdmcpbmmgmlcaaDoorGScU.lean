/- Walks by the logic of calls, and plain laws. -/
import Derived.Test.YthdmcpbmmgmlcaaDoorGScT
namespace Go.Gh
open Go Go.Proofs
set_option maxRecDepth 1000000
set_option maxHeartbeats 2000000
set_option linter.unusedSimpArgs false
set_option linter.unusedVariables false
open Go.RowKit

theorem mod_norm (a : Int) {n : Nat} (h1 : 1 ≤ n) (h2 : n ≤ 4096) : (IntKind.i64.wrap (a.tmod n + n)).tmod n = (((a % n).toNat : Nat) : Int) ∧ (a % n).toNat < n := by
  have hn : (0 : Int) < n := by omega
  have b1 := Int.tmod_lt_of_pos a hn
  have b2 := Int.lt_tmod_of_pos a hn
  rw [wrap_in (by show _ ∧ _; omega), Int.tmod_eq_emod_of_nonneg (by omega)]
  have e : (a.tmod n + n) % n = a % n := by rw [Int.add_emod_right, Int.tmod_def, Int.sub_mul_emod_self_left]
  have b3 := Int.emod_nonneg a (show (n : Int) ≠ 0 by omega)
  have b4 := Int.emod_lt_of_pos a hn
  rw [e]
  omega
theorem rwordsY_ok {d : Dc} (h : Right d) {x : Nat} (hx : x < d.fields.length) (i : Nat) : GC Tryd.prog 29 [sG ((readT d.fields i).getD x default)] (rowS (wordsAt (d.fields.getD x default).words (i / tot (d.fields.drop (x + 1))))) := by
  have e := rwords_ok ((readT d.fields i).getD x default) (readT_size h hx i)
  have e2 : wordsF ((readT d.fields i).getD x default) = wordsAt (d.fields.getD x default).words (i / tot (d.fields.drop (x + 1))) := by
    rw [readT_getD hx, wordsF_text (h.good _ (getD_mem hx)), wordsAt_mod]
  rw [e2] at e
  exact e
theorem div_eq {A B s l : Nat} (h1 : A / (l * s) = B / (l * s)) (h2 : A / s % l = B / s % l) : A / s = B / s := by
  have a1 := Nat.div_add_mod (A / s) l
  have a2 := Nat.div_add_mod (B / s) l
  rw [Nat.div_div_eq_div_mul, Nat.mul_comm s l] at a1 a2
  rw [h1, h2] at a1
  omega
/-- the first of two spellings, from place m on -/
def firstF (w : List ByteArray) (a b m : Nat) : ByteArray := if m ≤ a then w.getD a default else if m ≤ b then w.getD b default else ⟨#[]⟩
theorem firstF_step {w : List ByteArray} (hw : wordE w = 0) {a b m : Nat} (hab : a < b) (hb : b < w.length) (hm : m < w.length) :
    (w.getD m default = w.getD a default ∨ w.getD m default = w.getD b default → w.getD m default = firstF w a b m) ∧ (¬ (w.getD m default = w.getD a default ∨ w.getD m default = w.getD b default) → firstF w a b (m + 1) = firstF w a b m) := by
  refine ⟨fun h => ?_, fun h => ?_⟩
  · rcases h with h | h
    · have := word_inj hw hm (by omega) h
      subst this
      rw [firstF, if_pos (Nat.le_refl _)]
    · have := word_inj hw hm hb h
      subst this
      rw [firstF, if_neg (by omega), if_pos (Nat.le_refl _)]
  · have h1 : m ≠ a := fun e => h (.inl (by rw [e]))
    have h2 : m ≠ b := fun e => h (.inr (by rw [e]))
    unfold firstF
    by_cases c1 : m ≤ a
    · rw [if_pos c1, if_pos (by omega)]
    · rw [if_neg c1, if_neg (by omega)]
      by_cases c2 : m ≤ b
      · rw [if_pos c2, if_pos (by omega)]
      · rw [if_neg c2, if_neg (by omega)]

theorem words_step {ws : List (List ByteArray)} (he : ∀ w, w ∈ ws → wordE w = 0) {A B y : Nat} (hy : y < ws.length) (hq : A / sz (ws.drop y) = B / sz (ws.drop y)) (e : (wordsAt ws A).getD y default = (wordsAt ws B).getD y default) : A / sz (ws.drop (y + 1)) = B / sz (ws.drop (y + 1)) := by
  have hw := he _ (getD_mem hy)
  have hl := (wordE_0 hw).1
  rw [wordsAt_getD hy, wordsAt_getD hy] at e
  rw [sz_at hy] at hq
  exact div_eq hq (word_inj hw (Nat.mod_lt _ (by omega)) (Nat.mod_lt _ (by omega)) e)
theorem words_diff {ws : List (List ByteArray)} (he : ∀ w, w ∈ ws → wordE w = 0) {A B y : Nat} (hy : y < ws.length) (hAB : A ≤ B) (hq : A / sz (ws.drop y) = B / sz (ws.drop y)) (e : ¬ (wordsAt ws A).getD y default = (wordsAt ws B).getD y default) :
    A / sz (ws.drop (y + 1)) % (ws.getD y default).length < B / sz (ws.drop (y + 1)) % (ws.getD y default).length ∧ B / sz (ws.drop (y + 1)) % (ws.getD y default).length < (ws.getD y default).length ∧ wordE (ws.getD y default) = 0 ∧ (ws.getD y default).length ≤ 4 := by
  have hw := he _ (getD_mem hy)
  have hl := (wordE_0 hw).1
  have hl4 := (wordE_0 hw).2.1
  rw [wordsAt_getD hy, wordsAt_getD hy] at e
  rw [sz_at hy] at hq
  refine ⟨?_, Nat.mod_lt _ (by omega), hw, hl4⟩
  have hne : A / sz (ws.drop (y + 1)) % (ws.getD y default).length ≠ B / sz (ws.drop (y + 1)) % (ws.getD y default).length := fun q => e (by rw [q])
  have h1 : A / sz (ws.drop (y + 1)) ≤ B / sz (ws.drop (y + 1)) := Nat.div_le_div_right hAB
  have a1 := Nat.div_add_mod (A / sz (ws.drop (y + 1))) (ws.getD y default).length
  have a2 := Nat.div_add_mod (B / sz (ws.drop (y + 1))) (ws.getD y default).length
  rw [Nat.div_div_eq_div_mul, Nat.mul_comm (sz _)] at a1 a2
  rw [hq] at a1
  omega
theorem countE_6 {d : Dc} (hc : checkE d = 0) (h : ¬ ((countE d).2 = 0 ∧ 1 ≤ (countE d).1)) : (countE d).2 = 6 := by
  have h1 := countF_range (fs := d.fields) _ 0 1 rfl (by omega)
  have e : countE d = countF d.fields 0 1 := by unfold countE; rw [if_pos hc]
  rw [e] at h ⊢
  rcases h1 with h1 | h1
  · rw [← e] at h1
    obtain ⟨hr, hct, htt⟩ := countE_yes h1
    have := tot_pos hr.good
    rw [e] at hct h1
    omega
  · exact h1.1
theorem firstF_0 {w : List ByteArray} {a b : Nat} : firstF w a b 0 = w.getD a default := by rw [firstF, if_pos (Nat.zero_le _)]
theorem firstF_len {w : List ByteArray} {a b : Nat} (h1 : a < b) (h : b < w.length) : firstF w a b w.length = ⟨#[]⟩ := by rw [firstF, if_neg (by omega), if_neg (by omega)]
theorem sz_0 {ws : List (List ByteArray)} (A : Nat) : A / sz (ws.drop ws.length) = A := by rw [List.drop_length]; show A / 1 = A; exact Nat.div_one _
theorem tot_0 {fs : List Fl} (A : Nat) : A / tot (fs.drop fs.length) = A := by rw [List.drop_length]; show A / 1 = A; exact Nat.div_one _
theorem sz_in {fs : List Fl} {x : Nat} (hx : x < fs.length) (A : Nat) : A / tot (fs.drop (x + 1)) / sz ((fs.getD x default).words.drop 0) = A / tot (fs.drop x) := by
  rw [List.drop_zero, Nat.div_div_eq_div_mul, tot_at hx, Nat.mul_comm]

theorem order_ok (d : Dc) (a b : Int) : GC Tryd.prog 5 [dcG d, iG a, iG b] (bG true) := by
  refine gc_of_gk Tryd.func5 ?_
  refine gk_region env false [] [1, 2, 3, 6] ?_ (hp := (by simp only [AllP, bb, toN]; repeat' first | exact trivial | exact EntL.refl _ | exact rfl | omega | apply And.intro | intro _)) -- 0
  refine gk_region env false [.call sane_ok] [1, 2, 3, 6, 7] ?_ (hp := (by simp only [AllP, bb, toN]; repeat' first | exact trivial | exact EntL.refl _ | exact rfl | omega | apply And.intro | intro _)) -- 1
  cases hw : fewD d
  · refine gk_region env false [.call (fewN_ok d hw), .no, .nu] [1, 2, 3, 6, 7, 32] ?_ (hp := (by simp only [AllP, bb, toN]; repeat' first | exact trivial | exact EntL.refl _ | exact rfl | omega | apply And.intro | intro _)) -- 2
    refine gk_if (fun c1 => ?_) (fun c1 => ?_)
    · try simp only [bb, toN] at c1
      refine gk_region env false [] [1, 2, 3, 6, 7] ?_ (hp := (by simp only [AllP, bb, toN]; repeat' first | exact trivial | exact EntL.refl _ | exact rfl | omega | apply And.intro | intro _)) -- 3
      refine gk_ret env ?_
      simp [tupG]
    · try simp only [bb, toN] at c1
      exact absurd c1 (by simp)
  · have hd := few_fit hw
    have hd2 := hd.fields
    refine gk_region env false [.call (fewY_ok d hw), .call (check_ok d hd)] [1, 2, 3, 6, 7, 32] ?_ (hp := (by simp only [AllP, bb, toN]; repeat' first | exact trivial | exact EntL.refl _ | exact rfl | omega | apply And.intro | intro _)) -- 2
    refine gk_if (fun c1 => ?_) (fun c1 => ?_)
    · try simp only [bb, toN] at c1
      refine gk_region env false [] [1, 2, 3, 6, 7] ?_ (hp := (by simp only [AllP, bb, toN]; repeat' first | exact trivial | exact EntL.refl _ | exact rfl | omega | apply And.intro | intro _)) -- 3
      refine gk_ret env ?_
      simp [tupG]
    · try simp only [bb, toN] at c1
      refine gk_region env false [.call (count_ok d hd)] [1, 2, 3, 6, 7, 8, 9] ?_ (hp := (by simp only [AllP, bb, toN]; repeat' first | exact trivial | exact EntL.refl _ | exact rfl | omega | apply And.intro | intro _)) -- 4
      refine gk_region env false [] [1, 2, 3, 6, 7, 8, 9, 44] ?_ (hp := (by simp only [AllP, bb, toN]; repeat' first | exact trivial | exact EntL.refl _ | exact rfl | omega | apply And.intro | intro _)) -- 5
      refine gk_if (fun c2 => ?_) (fun c2 => ?_)
      · try simp only [bb, toN] at c2
        have hc00 : checkE d = 0 := by simpa using c1
        refine gk_region env false [] [1, 2, 3, 6, 7, 8] ?_ (hp := (by simp only [AllP, bb, toN]; repeat' first | exact trivial | exact EntL.refl _ | exact rfl | omega | apply And.intro | intro _)) -- 6
        refine gk_ret env ?_
        have h6 := countE_6 hc00 (by omega)
        simp [tupG, h6]
      · try simp only [bb, toN] at c2
        have hc0 : checkE d = 0 := by simpa using c1
        obtain ⟨hr, hct, htt⟩ := countE_yes c2.1
        have ht1 : 1 ≤ tot d.fields := tot_pos hr.good
        simp only [hct]
        refine gk_region env true [] [2, 3, 6, 7, 8, 10] ?_ (hp := (by simp only [AllP, bb, toN]; repeat' first | exact trivial | exact EntL.refl _ | exact rfl | omega | apply And.intro | intro _)) -- 7
        refine gk_region env true [] [3, 6, 7, 10, 11] ?_ (hp := (by simp only [AllP, bb, toN]; repeat' first | exact trivial | exact EntL.refl _ | exact rfl | omega | apply And.intro | intro _)) -- 8
        obtain ⟨ea, la⟩ := mod_norm a ht1 htt
        obtain ⟨eb, lb⟩ := mod_norm b ht1 htt
        simp only [ea, eb]
        generalize (a % (tot d.fields : Int)).toNat = I at la
        generalize (b % (tot d.fields : Int)).toNat = J at lb
        obtain ⟨lo, hlo⟩ : ∃ lo, lo = min I J := ⟨_, rfl⟩
        obtain ⟨hi, hhi⟩ : ∃ hi, hi = max I J := ⟨_, rfl⟩
        have hlh : lo ≤ hi := by omega
        have hht : hi < tot d.fields := by omega
        have emin : (if (J : Int) < (I : Int) then (J : Int) else (I : Int)) = (lo : Int) := by split <;> omega
        have emax : (if (I : Int) < (J : Int) then (J : Int) else (I : Int)) = (hi : Int) := by split <;> omega
        refine gk_region env false [.call (readY_ok d hd lo c2.1 (by omega))] [3, 6, 7, 10, 11, 12, 13] ?_ (hp := (by simp only [AllP, bb, toN, emin]; repeat' first | exact trivial | exact EntL.refl _ | exact rfl | omega | apply And.intro | intro _)) -- 9
        refine gk_region env false [.call (readY_ok d hd hi c2.1 (by omega))] [3, 6, 7, 10, 11, 12, 13, 14, 15] ?_ (hp := (by simp only [AllP, bb, toN, emax]; repeat' first | exact trivial | exact EntL.refl _ | exact rfl | omega | apply And.intro | intro _)) -- 10
        refine gk_region env false [] [3, 6, 7, 10, 11, 12, 14, 103] ?_ (hp := (by simp only [AllP, bb, toN]; repeat' first | exact trivial | exact EntL.refl _ | exact rfl | omega | apply And.intro | intro _)) -- 11
        refine gk_if (fun c3 => ?_) (fun c3 => ?_)
        · try simp only [bb, toN] at c3
          rw [readT_length, readT_length] at c3
          exact absurd c3 (by simp)
        · try simp only [bb, toN] at c3
          refine gk_region env false [] [3, 6, 7, 10, 11, 12, 14, 16] ?_ (hp := (by simp only [AllP, bb, toN]; repeat' first | exact trivial | exact EntL.refl _ | exact rfl | omega | apply And.intro | intro _)) -- 13
          refine gk_loop (α := Nat) (fun x => x ≤ d.fields.length ∧ lo / tot (d.fields.drop x) = hi / tot (d.fields.drop x)) (fun x => [(16, iG x)]) (fun _ => []) (fun x => d.fields.length - x) 0 ⟨Nat.zero_le _, by rw [List.drop_zero, Nat.div_eq_of_lt (by omega), Nat.div_eq_of_lt (by omega)]⟩ ?_ -- loop 14
          rintro x ⟨hx, hq⟩
          refine gk_region env false [] [3, 6, 7, 10, 11, 12, 14, 16, 108] ?_ (hp := (by simp only [AllP, bb, toN]; repeat' first | exact trivial | exact EntL.refl _ | exact rfl | omega | apply And.intro | intro _)) -- 14
          refine gk_ifd (fun c4 => ?_) (fun c4 => ?_)
          · try simp only [toN] at c4
            have hg := hr.good _ (getD_mem (show x < d.fields.length by omega))
            have hg8 := hg.words
            refine gk_region env false [.call (rwordsY_ok hr (x := x) (by omega) lo)] [3, 6, 7, 10, 11, 12, 14, 16, 17] ?_ (hp := (by simp only [AllP, bb, toN]; repeat' first | exact trivial | exact EntL.refl _ | exact rfl | omega | apply And.intro | intro _)) -- 16
            refine gk_region env false [.call (rwordsY_ok hr (x := x) (by omega) hi)] [3, 6, 7, 10, 11, 12, 14, 16, 17, 18] ?_ (hp := (by simp only [AllP, bb, toN]; repeat' first | exact trivial | exact EntL.refl _ | exact rfl | omega | apply And.intro | intro _)) -- 17
            refine gk_region env false [] [3, 6, 7, 10, 11, 12, 14, 16, 17, 18, 19] ?_ (hp := (by simp only [AllP, bb, toN]; repeat' first | exact trivial | exact EntL.refl _ | exact rfl | omega | apply And.intro | intro _)) -- 18
            refine gk_region env false [] [3, 6, 7, 10, 11, 12, 14, 16, 17, 18, 19, 140] ?_ (hp := (by simp only [AllP, bb, toN]; repeat' first | exact trivial | exact EntL.refl _ | exact rfl | omega | apply And.intro | intro _)) -- 19
            refine gk_if (fun c5 => ?_) (fun c5 => ?_)
            · try simp only [bb, toN] at c5
              rw [wordsAt_length, wordsAt_length] at c5
              exact absurd c5 (by simp)
            · try simp only [bb, toN] at c5
              refine gk_region env false [] [3, 6, 7, 10, 11, 12, 14, 16, 17, 18, 19, 20] ?_ (hp := (by simp only [AllP, bb, toN]; repeat' first | exact trivial | exact EntL.refl _ | exact rfl | omega | apply And.intro | intro _)) -- 21
              refine gk_loop (α := Nat) (fun y => y ≤ (d.fields.getD x default).words.length ∧ (lo / tot (d.fields.drop (x + 1))) / sz ((d.fields.getD x default).words.drop y) = (hi / tot (d.fields.drop (x + 1))) / sz ((d.fields.getD x default).words.drop y)) (fun y => [(20, iG y)]) (fun _ => []) (fun y => (d.fields.getD x default).words.length - y) 0 ⟨Nat.zero_le _, by rw [sz_in (by omega), sz_in (by omega)]; exact hq⟩ ?_ -- loop 22
              rintro y ⟨hy, hqy⟩
              refine gk_region env false [] [3, 6, 7, 10, 11, 12, 14, 16, 17, 18, 19, 20, 144] ?_ (hp := (by simp only [AllP, bb, toN]; repeat' first | exact trivial | exact EntL.refl _ | exact rfl | omega | apply And.intro | intro _)) -- 22
              refine gk_ifd (fun c6 => ?_) (fun c6 => ?_)
              · try simp only [toN] at c6
                refine gk_region env false [] [3, 6, 7, 10, 11, 12, 14, 16, 17, 18, 19, 20, 155] ?_ (hp := (by simp only [AllP, bb, toN]; repeat' first | exact trivial | exact EntL.refl _ | exact rfl | omega | apply And.intro | intro _)) -- 24
                refine gk_ifd (fun c7 => ?_) (fun c7 => ?_)
                · try simp only [toN] at c7
                  refine gk_region env false [] [3, 6, 7, 10, 11, 12, 14, 16, 17, 18, 19, 20] ?_ (hp := (by simp only [AllP, bb, toN]; repeat' first | exact trivial | exact EntL.refl _ | exact rfl | omega | apply And.intro | intro _)) -- 23
                  refine gk_round (y + 1) ?_
                  exact ⟨by show y + 1 ≤ (d.fields.getD x default).words.length; omega, words_step hg.each (by omega) hqy c7⟩
                · try simp only [toN] at c7
                  have hy1 : y < (d.fields.getD x default).words.length := by omega
                  obtain ⟨hab, hb, hwd, hl4⟩ := words_diff hg.each hy1 (Nat.div_le_div_right hlh) hqy c7
                  refine gk_region env false [] [3, 6, 7, 10, 11, 12, 14, 16, 17, 18, 19, 20, 21] ?_ (hp := (by simp only [AllP, bb, toN]; repeat' first | exact trivial | exact EntL.refl _ | exact rfl | omega | apply And.intro | intro _)) -- 25
                  refine gk_region env false [] [3, 6, 7, 10, 11, 12, 14, 16, 17, 18, 19, 20, 21, 22] ?_ (hp := (by simp only [AllP, bb, toN]; repeat' first | exact trivial | exact EntL.refl _ | exact rfl | omega | apply And.intro | intro _)) -- 26
                  refine gk_loop (α := Nat) (fun m => m ≤ ((d.fields.getD x default).words.getD y default).length) (fun m => [(22, iG ((m : Int) - 1)), (21, sG (firstF ((d.fields.getD x default).words.getD y default) ((lo / tot (d.fields.drop (x + 1))) / sz ((d.fields.getD x default).words.drop (y + 1)) % ((d.fields.getD x default).words.getD y default).length) ((hi / tot (d.fields.drop (x + 1))) / sz ((d.fields.getD x default).words.drop (y + 1)) % ((d.fields.getD x default).words.getD y default).length) m))]) (fun _ => []) (fun m => m) ((d.fields.getD x default).words.getD y default).length (Nat.le_refl _) ?_ (hp := by rw [firstF_len hab hb]; simp only [AllP, bb, toN]; repeat' first | exact trivial | exact EntL.refl _ | exact rfl | omega | apply And.intro | intro _) -- loop 27
                  rintro m hm
                  refine gk_region env false [] [3, 6, 7, 10, 11, 12, 14, 16, 17, 18, 19, 20, 21, 22, 164] ?_ (hp := (by simp only [AllP, bb, toN]; repeat' first | exact trivial | exact EntL.refl _ | exact rfl | omega | apply And.intro | intro _)) -- 27
                  refine gk_ifd (fun c8 => ?_) (fun c8 => ?_)
                  · try simp only [toN] at c8
                    obtain ⟨k, rfl⟩ : ∃ k, m = k + 1 := ⟨m - 1, by omega⟩
                    have em : (((k + 1 : Nat) : Int) - 1) = (k : Int) := by omega
                    simp only [em]
                    have hfs := firstF_step hwd hab hb (show k < _ by omega)
                    refine gk_region env false [] [3, 6, 7, 10, 11, 12, 14, 16, 17, 18, 19, 20, 21, 22, 23] ?_ (hp := (by simp only [AllP, bb, toN]; repeat' first | exact trivial | exact EntL.refl _ | exact rfl | omega | apply And.intro | intro _)) -- 29
                    refine gk_region env false [] [3, 6, 7, 10, 11, 12, 14, 16, 17, 18, 19, 20, 21, 22, 23, 188] ?_ (hp := (by simp only [AllP, bb, toN]; repeat' first | exact trivial | exact EntL.refl _ | exact rfl | omega | apply And.intro | intro _)) -- 30
                    refine gk_if (fun c9 => ?_) (fun c9 => ?_)
                    · try simp only [bb, toN] at c9
                      rw [wordsAt_getD hy1, wordsAt_getD hy1] at c9
                      refine gk_region env false [] [3, 6, 7, 10, 11, 12, 14, 16, 17, 18, 19, 20, 21, 22] ?_ (hp := (by simp only [AllP, bb, toN]; repeat' first | exact trivial | exact EntL.refl _ | exact rfl | omega | apply And.intro | intro _)) -- 31
                      refine gk_region env false [] [3, 6, 7, 10, 11, 12, 14, 16, 17, 18, 19, 20, 21, 22] ?_ (hp := (by simp only [AllP, bb, toN]; repeat' first | exact trivial | exact EntL.refl _ | exact rfl | omega | apply And.intro | intro _)) -- 28
                      refine gk_round (k) ?_ (hp := by rw [← hfs.1 c9]; simp only [AllP, bb, toN]; repeat' first | exact trivial | exact EntL.refl _ | exact rfl | omega | apply And.intro | intro _)
                      omega
                    · try simp only [bb, toN] at c9
                      rw [wordsAt_getD hy1, wordsAt_getD hy1] at c9
                      refine gk_region env false [] [3, 6, 7, 10, 11, 12, 14, 16, 17, 18, 19, 20, 21, 22] ?_ (hp := (by simp only [AllP, bb, toN]; repeat' first | exact trivial | exact EntL.refl _ | exact rfl | omega | apply And.intro | intro _)) -- 28
                      refine gk_round (k) ?_ (hp := by rw [← hfs.2 (fun q => q.elim c9.1 c9.2)]; simp only [AllP, bb, toN]; repeat' first | exact trivial | exact EntL.refl _ | exact rfl | omega | apply And.intro | intro _)
                      omega
                  · try simp only [toN] at c8
                    refine gk_region env false [] [3, 6, 7, 10, 11, 12, 14, 16, 17, 18, 19, 20] ?_ (hp := (by simp only [AllP, bb, toN]; repeat' first | exact trivial | exact EntL.refl _ | exact rfl | omega | apply And.intro | intro _)) -- 32
                    refine gk_ret env ?_
                    have hm0 : m = 0 := by omega
                    subst hm0
                    rw [firstF_0, Int.toNat_natCast, wordsAt_getD hy1]
                    have hIJ : I ≠ J := by
                      intro e
                      have e2 : lo = hi := by omega
                      rw [e2] at hab
                      exact Nat.lt_irrefl _ hab
                    simp [tupG]
                    exact fun e => hIJ (by omega)
              · try simp only [toN] at c6
                refine gk_region env false [] [3, 6, 7, 10, 11, 12, 14, 16] ?_ (hp := (by simp only [AllP, bb, toN]; repeat' first | exact trivial | exact EntL.refl _ | exact rfl | omega | apply And.intro | intro _)) -- 15
                refine gk_round (x + 1) ?_
                have hyl : y = (d.fields.getD x default).words.length := by omega
                subst hyl
                rw [sz_0, sz_0] at hqy
                exact ⟨by show x + 1 ≤ d.fields.length; omega, hqy⟩
          · try simp only [toN] at c4
            refine gk_region env false [] [6] ?_ (hp := (by simp only [AllP, bb, toN]; repeat' first | exact trivial | exact EntL.refl _ | exact rfl | omega | apply And.intro | intro _)) -- 33
            refine gk_ret env ?_
            have hxl : x = d.fields.length := by omega
            subst hxl
            rw [tot_0, tot_0] at hq
            have hIJ : I = J := by omega
            simp [tupG, hIJ]
end Go.Gh
