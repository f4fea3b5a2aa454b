/- Walks by the logic of calls, and plain laws. -/
import Derived.Test.YtffffkfcbjobnaaGreatGScK
namespace Go.Gh
open Go Go.Proofs
set_option maxRecDepth 1000000
set_option maxHeartbeats 2000000
set_option linter.unusedSimpArgs false
set_option linter.unusedVariables false
open Go.RowKit

theorem dec_cons {α : Type} [DecidableEq α] {x y : α} {l m : List α} (h : x = y) : decide (x :: l = y :: m) = decide (l = m) := decide_eq_decide.2 (by simp [h])
theorem dec_at {α : Type} [Inhabited α] [DecidableEq α] {a b : List α} {i : Nat} (ha : i < a.length) (hb : i < b.length) (h : a.getD i default = b.getD i default) : decide (a.drop i = b.drop i) = decide (a.drop (i + 1) = b.drop (i + 1)) := by
  rw [drop_at ha, drop_at hb, dec_cons h]
theorem dec_no {α : Type} [Inhabited α] [DecidableEq α] {a b : List α} {i : Nat} (ha : i < a.length) (hb : i < b.length) (h : ¬ a.getD i default = b.getD i default) : decide (a.drop i = b.drop i) = false := by
  rw [drop_at ha, drop_at hb]; exact decide_eq_false (fun e => h (by injection e))
theorem dec_end {α : Type} [DecidableEq α] {a b : List α} {i : Nat} (ha : a.length ≤ i) (hb : b.length ≤ i) : decide (a.drop i = b.drop i) = true := by
  rw [List.drop_eq_nil_of_le ha, List.drop_eq_nil_of_le hb]; exact decide_eq_true rfl
theorem dec_len {α : Type} [DecidableEq α] {a b : List α} (h : ¬ (a.length : Int) = b.length) : decide (a = b) = false := decide_eq_false (fun e => h (by rw [e]))
theorem fl_dec {f g : Fl} (h : f.name = g.name) : decide (f = g) = decide (f.words = g.words) := decide_eq_decide.2 (by cases f; cases g; simp at h ⊢; simp [h])
theorem fl_no {f g : Fl} (h : ¬ f.name = g.name ∨ ¬ (f.words.length : Int) = g.words.length) : decide (f = g) = false := decide_eq_false (fun e => by rcases h with h | h <;> exact h (by rw [e]))
theorem dc_dec {f g : Dc} (h : f.kind = g.kind) : decide (f = g) = decide (f.fields = g.fields) := decide_eq_decide.2 (by cases f; cases g; simp at h ⊢; simp [h])
theorem dc_no {f g : Dc} (h : ¬ f.kind = g.kind ∨ ¬ (f.fields.length : Int) = g.fields.length) : decide (f = g) = false := decide_eq_false (fun e => by rcases h with h | h <;> exact h (by rw [e]))





theorem ofL_append (a b : List UInt8) : ofL (a ++ b) = ofL a ++ ofL b := by
  apply ByteArray.ext
  rw [ByteArray.data_append]
  apply Array.ext'
  simp [ofL]
theorem wordsAt_getD {ws : List (List ByteArray)} {i : Nat} : ∀ {k : Nat}, k < ws.length → (wordsAt ws i).getD k default = (ws.getD k default).getD (i / sz (ws.drop (k + 1)) % (ws.getD k default).length) default := by
  induction ws with
  | nil => intro k h; simp at h
  | cons w ws ih =>
    intro k h
    cases k with
    | zero => rfl
    | succ k => exact ih (by simpa using h)
theorem join_snoc (sep y : List UInt8) : ∀ (xs : List (List UInt8)), xs ≠ [] → Lib.join (xs ++ [y]) sep = Lib.join xs sep ++ sep ++ y := by
  intro xs
  match xs with
  | [] => intro h; exact absurd rfl h
  | [x] => intro _; simp [Lib.join, List.intercalate, List.intersperse]
  | x :: z :: l =>
    intro _
    have ih := join_snoc sep y (z :: l) (by simp)
    have e1 : Lib.join (x :: z :: l) sep = x ++ sep ++ Lib.join (z :: l) sep := by simp [Lib.join, List.intercalate, List.intersperse]
    have e2 : Lib.join (x :: z :: l ++ [y]) sep = x ++ sep ++ Lib.join (z :: l ++ [y]) sep := by simp [Lib.join, List.intercalate, List.intersperse]
    rw [e1, e2, ih]; simp
theorem joinS_snoc {xs : List ByteArray} (h : xs ≠ []) (y : ByteArray) : joinS (xs ++ [y]) sp = joinS xs sp ++ sp ++ y := by
  show ofL _ = ofL _ ++ sp ++ y
  rw [List.map_append, List.map_cons, List.map_nil, join_snoc _ _ _ (by simpa using h), ofL_append, ofL_append, ofL_bs, ofL_bs]
theorem joinS_one (y : ByteArray) : joinS [y] sp = joinS [] sp ++ y := by
  show ofL (Lib.join [bs y] _) = ofL (Lib.join [] _) ++ y
  have e1 : Lib.join [bs y] (bs sp) = bs y := by simp [Lib.join, List.intercalate, List.intersperse]
  have e2 : Lib.join [] (bs sp) = [] := by simp [Lib.join]
  rw [e1, e2, ofL_bs]
  apply ByteArray.ext
  rw [ByteArray.data_append]
  simp [ofL]
theorem joinS_size {xs : List ByteArray} (h : ∀ x, x ∈ xs → x.size ≤ 20) : (joinS xs sp).size ≤ 2000 * xs.length := by
  have := join_length (bs sp) (by simp [bs]) (xs.map bs) fun x hx => by
    obtain ⟨s, hs, rfl⟩ := List.mem_map.1 hx
    rw [bs_size]; have := h s hs; omega
  rw [List.length_map] at this
  show (Lib.join (xs.map bs) (bs sp)).toArray.size ≤ _
  simpa using this

theorem rtext_ok (f : Fl) (hf : Good f) (i : Nat) (hi : i < sz f.words) : GC Tryz.prog 175 [flG f, iG i] (sG (textF f i)) := by
  have hw := hf.words
  have hsz := hf.sz
  refine gc_of_gk Tryz.func175 ?_
  refine gk_region env false [] [1, 2, 4] ?_ -- 0
  refine gk_region env false [.call (rsize_ok f hf)] [1, 2, 4, 5] ?_ -- 1
  refine gk_region env false [] [1, 2, 4, 5, 6] ?_ -- 2
  refine gk_region env false [] [1, 2, 4, 5, 6, 7] ?_ -- 3
  refine gk_loop (α := Nat) (fun k => k ≤ f.words.length) (fun k => [(7, iG k), (5, iG (sz (f.words.drop k))), (1, iG ((i % sz (f.words.drop k) : Nat))), (6, sG (joinS ((wordsAt f.words i).take k) sp))]) (fun _ => []) (fun k => f.words.length - k) 0 (Nat.zero_le _) ?_ (hp := by simp [AllP, Nat.mod_eq_of_lt hi]; rfl) -- loop 4
  rintro k hk
  refine gk_region env false [] [1, 2, 4, 5, 6, 7, 15] ?_ -- 4
  refine gk_ifd (fun c1 => ?_) (fun c1 => ?_)
  · try simp only [toN] at c1
    have hk1 : k < f.words.length := by omega
    obtain ⟨w1, w2, w3, _⟩ := wordE_0 (hf.at_ hk1)
    have hz := sz_at hk1
    have h1 := hf.drop (k + 1)
    have hwa := wordsAt_getD (i := i) hk1
    have hat : i % sz (f.words.drop k) / sz (f.words.drop (k + 1)) = i / sz (f.words.drop (k + 1)) % (f.words.getD k default).length := by rw [hz]; exact Nat.mod_mul_left_div_self ..
    have har : i % sz (f.words.drop k) % sz (f.words.drop (k + 1)) = i % sz (f.words.drop (k + 1)) := by rw [hz]; exact Nat.mod_mul_left_mod ..
    have hr : (sz (f.words.drop k) : Int) / ((f.words.getD k default).length : Int) = (sz (f.words.drop (k + 1)) : Int) := by rw [hz, Int.natCast_mul, Int.mul_ediv_cancel_left _ (by omega)]
    have hlt := Nat.mod_lt (i / sz (f.words.drop (k + 1))) (show 0 < (f.words.getD k default).length by omega)
    rw [← hat] at hlt hwa
    have hq : ((i % sz (f.words.drop k) : Nat) : Int) / (sz (f.words.drop (k + 1)) : Int) = ((i % sz (f.words.drop k) / sz (f.words.drop (k + 1)) : Nat) : Int) := (Int.natCast_ediv _ _).symm
    have hm : ((i % sz (f.words.drop k) : Nat) : Int) % (sz (f.words.drop (k + 1)) : Int) = ((i % sz (f.words.drop (k + 1)) : Nat) : Int) := by rw [← Int.natCast_emod, har]
    have htk : (wordsAt f.words i).take (k + 1) = (wordsAt f.words i).take k ++ [(wordsAt f.words i).getD k default] := take_getD (by rw [wordsAt_length]; exact hk1)
    have hjs := joinS_size (xs := (wordsAt f.words i).take k) fun x hx => validS_size (wordsAt_mem hf.each (List.mem_of_mem_take hx))
    have htl : ((wordsAt f.words i).take k).length = k := by rw [List.length_take, wordsAt_length]; omega
    rw [htl] at hjs
    have hws : ((f.words.getD k default).getD (i % sz (f.words.drop k) / sz (f.words.drop (k + 1))) default).size ≤ 20 := validS_size (w3 _ (getD_mem hlt))
    have hml : i % sz (f.words.drop k) ≤ i := Nat.mod_le _ _
    have hzl : sz (f.words.drop (k + 1)) ≤ 65536 := by have h2 := sz_range (ws := f.words.drop (k + 1)) (fun w hw => hf.each w (List.mem_of_mem_drop hw)); have h3 : 4 ^ (f.words.drop (k + 1)).length ≤ 4 ^ 8 := Nat.pow_le_pow_right (by omega) (by rw [List.length_drop]; omega); omega
    refine gk_region env false [] [1, 2, 4, 5, 6, 7, 8] ?_ -- 6
    refine gk_region env false [] [1, 2, 4, 5, 6, 7, 8] ?_ -- 7
    simp only [Int.toNat_natCast, hr]
    have hsp1 : (ByteArray.mk #[32]).size = 1 := rfl
    refine gk_region env false [] [1, 2, 4, 5, 6, 7, 8, 29] ?_ -- 8
    refine gk_ifd (fun c2 => ?_) (fun c2 => ?_)
    · try simp only [toN] at c2
      have hj : joinS ((wordsAt f.words i).take k) sp ++ ⟨#[32]⟩ ++ (f.words.getD k default).getD (i % sz (f.words.drop k) / sz (f.words.drop (k + 1))) default = joinS ((wordsAt f.words i).take (k + 1)) sp := by rw [htk, joinS_snoc (by intro e; rw [e] at htl; simp at htl; omega), hwa]
      refine gk_region env false [] [1, 2, 4, 5, 6, 7, 8] ?_ (hp := (by simp only [AllP]; omega)) -- 9
      refine gk_region env false [] [1, 2, 4, 5, 6, 7] ?_ (hp := (by simp only [AllP, bb, toN, hq, ByteArray.size_append, hsp1]; generalize i % sz (f.words.drop k) / sz (f.words.drop (k + 1)) = y at hlt hws ⊢; generalize i % sz (f.words.drop k) = A at hml ⊢; repeat' first | exact trivial | exact EntL.refl _ | exact rfl | omega | apply And.intro | intro _)) -- 10
      refine gk_region env false [] [1, 2, 4, 5, 6, 7] ?_ (hp := (by simp only [AllP, bb, toN]; generalize i % sz (f.words.drop k) = A at hml ⊢; repeat' first | exact trivial | exact EntL.refl _ | exact rfl | omega | apply And.intro | intro _)) -- 11
      refine gk_region env false [] [1, 2, 4, 5, 6, 7] ?_ -- 5
      refine gk_round (k + 1) ?_ (hp := by simp only [AllP, hq, hm, Int.toNat_natCast, hj]; simp)
      omega
    · try simp only [toN] at c2
      have hj : joinS ((wordsAt f.words i).take k) sp ++ (f.words.getD k default).getD (i % sz (f.words.drop k) / sz (f.words.drop (k + 1))) default = joinS ((wordsAt f.words i).take (k + 1)) sp := by
        rw [htk, ← hwa]
        obtain rfl : k = 0 := by omega
        exact (joinS_one _).symm
      refine gk_region env false [] [1, 2, 4, 5, 6, 7] ?_ (hp := (by simp only [AllP, bb, toN, hq, ByteArray.size_append, hsp1]; generalize i % sz (f.words.drop k) / sz (f.words.drop (k + 1)) = y at hlt hws ⊢; generalize i % sz (f.words.drop k) = A at hml ⊢; repeat' first | exact trivial | exact EntL.refl _ | exact rfl | omega | apply And.intro | intro _)) -- 10
      refine gk_region env false [] [1, 2, 4, 5, 6, 7] ?_ (hp := (by simp only [AllP, bb, toN]; generalize i % sz (f.words.drop k) = A at hml ⊢; repeat' first | exact trivial | exact EntL.refl _ | exact rfl | omega | apply And.intro | intro _)) -- 11
      refine gk_region env false [] [1, 2, 4, 5, 6, 7] ?_ -- 5
      refine gk_round (k + 1) ?_ (hp := by simp only [AllP, hq, hm, Int.toNat_natCast, hj]; simp)
      omega
  · try simp only [toN] at c1
    refine gk_region env false [] [4] ?_ -- 12
    refine gk_ret env ?_
    obtain rfl : k = f.words.length := by omega
    rw [textF, List.take_of_length_le (by rw [wordsAt_length]; omega)]; rfl
end Go.Gh
