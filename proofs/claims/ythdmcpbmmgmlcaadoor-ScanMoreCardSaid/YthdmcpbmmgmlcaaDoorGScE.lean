/- Walks by the logic of calls, and plain laws. -/
import Derived.Test.YthdmcpbmmgmlcaaDoorGScD
namespace Go.Gh
open Go Go.Proofs
set_option maxRecDepth 1000000
set_option maxHeartbeats 2000000
set_option linter.unusedSimpArgs false
set_option linter.unusedVariables false
open Go.RowKit

theorem split0_ok (s : ByteArray) (hs : s.size ≤ 1000000) : GC Tryd.prog 60 [sG s, sG sp] (rowS (parts s)) := by
  refine gc_of_gk Tryd.func60 ?_
  refine gk_region env false [] [0, 1, 4] ?_ -- 0
  refine gk_region env false [.call (genSplit_ok s hs)] [4] ?_ -- 1
  refine gk_ret env ?_
  rfl

def wordsF (s : ByteArray) : List ByteArray := if s = ⟨#[]⟩ then [] else parts s
theorem wordsF_len (s : ByteArray) : (wordsF s).length ≤ s.size + 1 := by
  unfold wordsF; split
  · simp
  · exact parts_len s
theorem wordsF_str (s : ByteArray) : ∀ x, x ∈ wordsF s → x.size ≤ s.size := by
  have key : ∀ (l : List UInt8) x, x ∈ splitL l → x.length ≤ l.length := by
    intro l
    induction l with
    | nil => intro x h; simp [splitL] at h; subst h; simp
    | cons c l ih =>
      intro x h
      unfold splitL at h
      split at h
      · rcases List.mem_cons.1 h with rfl | h
        · simp
        · have := ih x h; simp; omega
      · split at h
        · rename_i y r e
          rcases List.mem_cons.1 h with rfl | h
          · have := ih y (by rw [e]; simp); simp; omega
          · have := ih x (by rw [e]; simp [h]); simp; omega
        · simp at h; subst h; simp
  intro x h
  unfold wordsF at h
  split at h
  · cases h
  · obtain ⟨y, hy, rfl⟩ := List.mem_map.1 h
    have := key _ y hy
    rw [bs_size] at this
    show y.toArray.size ≤ s.size
    simpa using this
def hasB (d : Dc) (n : Int) : Bool := (decide (checkE d = 0) && decide (0 ≤ n)) && decide (n < d.fields.length)
theorem hasB_at {d : Dc} {n : Int} (h : hasB d n = true) : checkE d = 0 ∧ 0 ≤ n ∧ n < d.fields.length := by
  simp only [hasB, Bool.and_eq_true, decide_eq_true_eq] at h; exact ⟨h.1.1, h.1.2, h.2⟩
def fieldAt (d : Dc) (n : Int) : Fl := d.fields.getD n.toNat default
theorem hasB_mem {d : Dc} {n : Int} (h : hasB d n = true) : fieldAt d n ∈ d.fields := getD_mem (by have := hasB_at h; omega)
theorem hasB_good {d : Dc} {n : Int} (h : hasB d n = true) : Good (fieldAt d n) := (right_of (hasB_at h).1).good _ (hasB_mem h)
theorem hasY_ok (d : Dc) (hd : Fit d) (n : Int) (h : hasB d n = true) : GC Tryd.prog 39 [dcG d, iG n] (bG true) := by
  have e : GC Tryd.prog 39 [dcG d, iG n] (bG (hasB d n)) := has_ok d hd n
  rw [h] at e; exact e
theorem hasNo_ok (d : Dc) (hd : Fit d) (n : Int) (h : hasB d n = false) : GC Tryd.prog 39 [dcG d, iG n] (bG false) := by
  have e : GC Tryd.prog 39 [dcG d, iG n] (bG (hasB d n)) := has_ok d hd n
  rw [h] at e; exact e
def certE (d : Dc) (n : Int) : ByteArray × Bool := if hasB d n = true ∧ sz (fieldAt d n).words = 1 then (textF (fieldAt d n) 0, true) else (⟨#[]⟩, false)
def possF (ws : List ByteArray) (ls : List (List ByteArray)) (i : Nat) : Bool := if i < ws.length then if (ls.getD i default).any fun x => decide (x = ws.getD i default) then possF ws ls (i + 1) else false else true
termination_by ws.length - i
def possV (d : Dc) (n : Int) (t : ByteArray) : Bool := if hasB d n = true then if (wordsF t).length = (fieldAt d n).words.length then possF (wordsF t) (fieldAt d n).words 0 else false else false

theorem split_ok (s : ByteArray) (hs : s.size ≤ 1000000) : GC Tryd.prog 40 [sG s] (rowS (wordsF s)) := by
  refine gc_of_gk Tryd.func40 ?_
  refine gk_region env false [] [0, 2] ?_ -- 0
  refine gk_region env false [] [0, 2, 4] ?_ -- 1
  refine gk_ifd (fun c1 => ?_) (fun c1 => ?_)
  · try simp only [toN] at c1
    refine gk_region env false [] [0, 2] ?_ -- 2
    refine gk_retE env ?_
    rw [wordsF, if_pos c1]; exact Ent.nil
  · try simp only [toN] at c1
    refine gk_region env false [.call (split0_ok s hs)] [2] ?_ -- 3
    refine gk_ret env ?_
    rw [wordsF, if_neg c1]; rfl

theorem certain_ok (d : Dc) (hd : Fit d) (n : Int) : GC Tryd.prog 14 [dcG d, iG n] (.tup [sG (certE d n).1, bG (certE d n).2]) := by
  have hd2 := hd.fields
  refine gc_of_gk Tryd.func14 ?_
  refine gk_region env false [] [1, 2, 4, 5] ?_ -- 0
  cases hb : hasB d n
  · refine gk_region env false [.call (hasNo_ok d hd n hb), .no, .nu] [1, 2, 4, 5, 18] ?_ (hp := (by simp only [AllP, bb, toN]; repeat' first | exact trivial | exact EntL.refl _ | exact rfl | omega | apply And.intro | intro _ | contradiction)) -- 1
    refine gk_if (fun c1 => ?_) (fun c1 => ?_)
    · try simp only [bb, toN] at c1
      refine gk_region env false [] [1, 2, 4, 5] ?_ -- 2
      refine gk_ret env ?_
      rw [certE, if_neg (by simp [hb])]; rfl
    · try simp only [bb, toN] at c1
      exact absurd c1 (by simp)
  · obtain ⟨h1, h2, h3⟩ := hasB_at hb
    refine gk_region env false [.call (hasY_ok d hd n hb), .call (size_ok (d.fields.getD n.toNat default) (hasB_good hb))] [1, 2, 4, 5, 18] ?_ -- 1
    refine gk_if (fun c1 => ?_) (fun c1 => ?_)
    · try simp only [bb, toN] at c1
      refine gk_region env false [] [1, 2, 4, 5] ?_ -- 2
      refine gk_ret env ?_
      rw [certE, if_neg (fun h => by simp at c1; exact c1 (by exact_mod_cast h.2))]; rfl
    · try simp only [bb, toN] at c1
      refine gk_region env false [.call (text_ok (d.fields.getD n.toNat default) (hasB_good hb) 0 (by omega))] [4, 5] ?_ -- 3
      refine gk_ret env ?_
      rw [certE, if_pos ⟨hb, by simp at c1; exact_mod_cast c1⟩]; rfl

theorem possible_ok (d : Dc) (hd : Fit d) (n : Int) (t : ByteArray) (ht : t.size ≤ 1000000) : GC Tryd.prog 25 [dcG d, iG n, sG t] (bG (possV d n t)) := by
  have hd2 := hd.fields
  have hwl := wordsF_len t
  refine gc_of_gk Tryd.func25 ?_
  refine gk_region env false [] [1, 2, 3, 6] ?_ -- 0
  refine gk_region env false [.call (has_ok d hd n)] [1, 2, 3, 6, 14] ?_ -- 1
  refine gk_if (fun c1 => ?_) (fun c1 => ?_)
  · try simp only [bb, toN] at c1
    refine gk_region env false [] [1, 2, 3, 6] ?_ -- 2
    refine gk_ret env ?_
    have hb : hasB d n = false := by
      cases hb : hasB d n with
      | false => rfl
      | true => obtain ⟨a1, a2, a3⟩ := hasB_at hb; omega
    rw [possV, if_neg (by simp [hb])]; rfl
  · try simp only [bb, toN] at c1
    have hb : hasB d n = true := by simpa [hasB, and_assoc] using c1
    obtain ⟨h1, h2, h3⟩ := hasB_at hb
    have hg := hasB_good hb
    have hgl := hg.words
    refine gk_region env false [.call (split_ok t ht)] [1, 3, 6, 7] ?_ -- 3
    refine gk_region env false [] [6, 7, 8] ?_ -- 4
    refine gk_region env false [] [6, 7, 8, 27] ?_ -- 5
    refine gk_ifn (fun c2 => ?_) (fun c2 => ?_)
    · try simp only [toN] at c2
      refine gk_region env false [] [6, 7, 8] ?_ -- 6
      refine gk_ret env ?_
      rw [possV, if_pos hb, if_neg (by exact fun e => c2 (by exact congrArg Nat.cast e))]; rfl
    · try simp only [toN] at c2
      refine gk_region env false [] [6, 8, 28, 29, 30] ?_ -- 7
      refine gk_loop (α := Nat) (fun i => i ≤ (wordsF t).length ∧ possF (wordsF t) (fieldAt d n).words 0 = possF (wordsF t) (fieldAt d n).words i) (fun i => [(30, iG i)]) (fun _ => []) (fun i => (wordsF t).length - i) 0 ⟨by omega, rfl⟩ ?_ (hp := by simp [AllP] <;> rfl) -- loop 8
      rintro i ⟨hi, he⟩
      refine gk_region env false [] [6, 8, 28, 29, 30, 31] ?_ -- 8
      refine gk_ifd (fun c3 => ?_) (fun c3 => ?_)
      · try simp only [toN] at c3
        refine gk_region env false [] [6, 8, 9, 10, 28, 29, 30] ?_ -- 9
        have hi2 : i < (fieldAt d n).words.length := by have : (fieldAt d n).words.length = (d.fields.getD n.toNat default).words.length := rfl; omega
        have hwo := wordE_0 (hg.at_ hi2)
        refine gk_region env false [.call (contains_ok ((fieldAt d n).words.getD i default) (by omega) ((wordsF t).getD i default))] [6, 8, 28, 29, 30, 42] ?_ -- 10
        refine gk_if (fun c4 => ?_) (fun c4 => ?_)
        · try simp only [bb, toN] at c4
          refine gk_region env false [] [6, 8, 28, 29, 30] ?_ -- 11
          refine gk_ret env ?_
          have e : possF (wordsF t) (fieldAt d n).words 0 = false := by rw [he, possF, if_pos (by omega), if_neg (by rw [c4]; simp)]
          rw [possV, if_pos hb]; split <;> simp [e, tupG]
        · try simp only [bb, toN] at c4
          refine gk_region env false [] [6, 8, 28, 29, 30] ?_ -- 12
          refine gk_round (i + 1) ?_ (hp := by simp [AllP] <;> rfl)
          refine ⟨by omega, he.trans ?_⟩
          rw [possF, if_pos (by omega), if_pos c4]
      · try simp only [toN] at c3
        refine gk_region env false [] [6] ?_ -- 13
        refine gk_ret env ?_
        have e : possF (wordsF t) (fieldAt d n).words 0 = true := by rw [he, possF, if_neg (by omega)]
        have c2 : ((wordsF t).length : Int) = ((fieldAt d n).words.length : Int) := by simpa [fieldAt] using c2
        rw [possV, if_pos hb, if_pos (by omega), e]; rfl

theorem find1_ok (f : Fl) (s : ByteArray) : GC Tryd.prog 53 [flG f, .ep [.sc (.string s)]] (bG (decide (f.name = s))) := by
  refine gc_of_gk Tryd.func53 ?_
  refine gk_region env false [] [1, 2, 3] ?_ -- 0
  refine gk_region env false [] [3] ?_ -- 1
  refine gk_ret env ?_
  rfl

theorem indexN_ok (l : List Fl) (hl : l.length ≤ 9223372036854775807) (s : ByteArray) : GC Tryd.prog 52 [.d (.row default flC l), .fn (.func 53) [] [.ep [.sc (.string s)]]] (iG (findI (fun f => decide (f.name = s)) l 0)) := by
  refine gc_of_gk Tryd.func52 ?_
  refine gk_region env false [] [0, 1, 4] ?_ -- 0
  refine gk_region env false [] [0, 1, 4, 7, 8] ?_ -- 1
  refine gk_loop (α := Nat) (fun i => i ≤ l.length ∧ findI (fun f => decide (f.name = s)) l 0 = findI (fun f => decide (f.name = s)) l i) (fun i => [(8, iG i)]) (fun _ => []) (fun i => l.length - i) 0 ⟨by omega, rfl⟩ ?_ (hp := by simp [AllP] <;> rfl) -- loop 2
  rintro i ⟨hi, he⟩
  refine gk_region env false [] [0, 1, 4, 7, 8, 9] ?_ -- 2
  refine gk_ifd (fun c1 => ?_) (fun c1 => ?_)
  · try simp only [toN] at c1
    refine gk_region env false [] [0, 1, 4, 5, 7, 8] ?_ -- 3
    refine gk_region env false [.call (find1_ok (l.getD i default) s)] [0, 1, 4, 5, 7, 8, 16] ?_ -- 4
    refine gk_if (fun c2 => ?_) (fun c2 => ?_)
    · try simp only [bb, toN] at c2
      refine gk_region env false [] [0, 1, 4, 7, 8] ?_ -- 5
      refine gk_ret env ?_
      rw [he, findI, if_pos (by omega), if_pos (by simpa using c2)]; rfl
    · try simp only [bb, toN] at c2
      refine gk_region env false [] [0, 1, 4, 7, 8] ?_ -- 6
      refine gk_round (i + 1) ?_ (hp := by simp [AllP] <;> rfl)
      refine ⟨by omega, he.trans ?_⟩
      rw [findI, if_pos (by omega), if_neg (by simpa using c2)]
  · try simp only [toN] at c1
    refine gk_region env false [] [4] ?_ -- 7
    refine gk_ret env ?_
    rw [he, findI, if_neg (by omega)]; rfl

def findE (d : Dc) (s : ByteArray) : Int := if checkE d = 0 then findI (fun f => decide (f.name = s)) d.fields 0 else -1

theorem find_ok (d : Dc) (hd : Fit d) (s : ByteArray) : GC Tryd.prog 27 [dcG d, sG s] (iG (findE d s)) := by
  have hd2 := hd.fields
  refine gc_of_gk Tryd.func27 ?_
  refine gk_region env false [] [2, 3, 4] ?_ -- 0
  refine gk_region env false [.call (check_ok d hd)] [2, 3, 4, 7] ?_ -- 1
  refine gk_ifn (fun c1 => ?_) (fun c1 => ?_)
  · try simp only [toN] at c1
    refine gk_region env false [] [2, 3, 4] ?_ -- 2
    refine gk_ret env ?_
    rw [findE, if_neg c1]; rfl
  · try simp only [toN] at c1
    refine gk_box 1 ?_
    refine gk_region env false [.call (indexN_ok d.fields (by omega) s)] [4] ?_ -- 3
    refine gk_ret env ?_
    rw [findE, if_pos c1]; rfl
end Go.Gh
