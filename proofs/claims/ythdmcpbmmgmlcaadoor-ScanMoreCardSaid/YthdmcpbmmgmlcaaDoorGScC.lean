/- Walks by the logic of calls, and plain laws. -/
import Derived.Test.YthdmcpbmmgmlcaaDoorGScB
namespace Go.Gh
open Go Go.Proofs
set_option maxRecDepth 1000000
set_option maxHeartbeats 2000000
set_option linter.unusedSimpArgs false
set_option linter.unusedVariables false
open Go.RowKit

/-! what a right document is -/
structure Good (f : Fl) : Prop where
  words : f.words.length ≤ 8
  each : ∀ w, w ∈ f.words → wordE w = 0
theorem wordE_0 {l : List ByteArray} (h : wordE l = 0) : 1 ≤ l.length ∧ l.length ≤ 4 ∧ (∀ s, s ∈ l → validS s = true) ∧ dupW l 0 = false := by
  unfold wordE at h
  split at h
  · omega
  · split at h
    · omega
    · split at h
      · omega
      · split at h
        · omega
        · rename_i h1 h2 h3 h4
          refine ⟨by omega, by omega, fun s hs => ?_, by simpa using h4⟩
          simp only [List.any_eq_true, not_exists, not_and, Bool.not_eq_true, Bool.not_eq_false'] at h3
          simpa using h3 s hs
theorem wordE_range (l : List ByteArray) : wordE l = 0 ∨ 2 ≤ wordE l := by
  unfold wordE
  split
  · omega
  · split
    · omega
    · split
      · omega
      · split <;> omega
theorem wordsE_0 {ws : List (List ByteArray)} : ∀ (n k : Nat), ws.length - k = n → wordsE ws k = 0 → ∀ j, k ≤ j → j < ws.length → wordE (ws.getD j default) = 0 := by
  intro n
  induction n with
  | zero => intro k h _ j h1 h2; omega
  | succ n ih =>
    intro k h he j h1 h2
    rw [wordsE, if_pos (by omega)] at he
    split at he
    · rename_i h3
      by_cases e : j = k
      · subst e; exact h3
      · exact ih (k + 1) (by omega) he j (by omega) h2
    · contradiction
theorem fieldsE_0 {fs : List Fl} : ∀ (n k : Nat), fs.length - k = n → fieldsE fs k = 0 → ∀ j, k ≤ j → j < fs.length → fieldE fs j = 0 := by
  intro n
  induction n with
  | zero => intro k h _ j h1 h2; omega
  | succ n ih =>
    intro k h he j h1 h2
    rw [fieldsE, if_pos (by omega)] at he
    split at he
    · rename_i h3
      by_cases e : j = k
      · subst e; exact h3
      · exact ih (k + 1) (by omega) he j (by omega) h2
    · contradiction
theorem mem_getD {α : Type} [Inhabited α] {l : List α} {x : α} (h : x ∈ l) : ∃ j, j < l.length ∧ l.getD j default = x := by
  obtain ⟨j, hj⟩ := List.getElem?_of_mem h
  exact ⟨j, (List.getElem?_eq_some_iff.1 hj).1, by rw [List.getD_eq_getElem?_getD, hj]; rfl⟩
structure Right (d : Dc) : Prop where
  kind : nameOk d.kind = true
  len : d.fields.length ≤ 12
  name : ∀ f, f ∈ d.fields → nameOk f.name = true
  good : ∀ f, f ∈ d.fields → Good f
  one : ∀ j, j < d.fields.length → ((d.fields.take j).any fun g => decide (g.name = (d.fields.getD j default).name)) = false
theorem right_of {d : Dc} (h : checkE d = 0) : Right d := by
  unfold checkE at h
  split at h
  · omega
  · rename_i h1
    split at h
    · omega
    · rename_i h2
      have key : ∀ j, j < d.fields.length → nameOk (d.fields.getD j default).name = true ∧ ((d.fields.take j).any fun g => decide (g.name = (d.fields.getD j default).name)) = false ∧ Good (d.fields.getD j default) := fun j hj => by
        have := fieldsE_0 _ 0 rfl h j (Nat.zero_le _) hj
        unfold fieldE at this
        split at this
        · omega
        · rename_i h3
          split at this
          · omega
          · rename_i h4
            split at this
            · omega
            · rename_i h5
              refine ⟨by simpa using h3, Bool.eq_false_iff.2 h4, by omega, fun w hw => ?_⟩
              obtain ⟨k, hk, rfl⟩ := mem_getD hw
              exact wordsE_0 _ 0 rfl this k (Nat.zero_le _) hk
      refine ⟨by simpa using h1, by omega, fun f hf => ?_, fun f hf => ?_, fun j hj => (key j hj).2.1⟩
      · obtain ⟨j, hj, rfl⟩ := mem_getD hf; exact (key j hj).1
      · obtain ⟨j, hj, rfl⟩ := mem_getD hf; exact (key j hj).2.2
/-! how many readings -/
def sz : List (List ByteArray) → Nat
  | [] => 1
  | w :: ws => w.length * sz ws
theorem drop_at {α : Type} [Inhabited α] {l : List α} {k : Nat} (h : k < l.length) : l.drop k = l.getD k default :: l.drop (k + 1) := by
  rw [List.drop_eq_getElem_cons h, List.getD_eq_getElem?_getD, List.getElem?_eq_getElem h]; rfl
theorem sz_at {ws : List (List ByteArray)} {k : Nat} (h : k < ws.length) : sz (ws.drop k) = (ws.getD k default).length * sz (ws.drop (k + 1)) := by rw [drop_at h]; rfl
theorem sz_range {ws : List (List ByteArray)} (h : ∀ w, w ∈ ws → wordE w = 0) : 1 ≤ sz ws ∧ sz ws ≤ 4 ^ ws.length := by
  induction ws with
  | nil => simp [sz]
  | cons w ws ih =>
    obtain ⟨a, b⟩ := ih fun x hx => h x (List.mem_cons_of_mem _ hx)
    obtain ⟨c1, c2, _⟩ := wordE_0 (h w List.mem_cons_self)
    refine ⟨Nat.mul_pos c1 a, ?_⟩
    show w.length * sz ws ≤ 4 ^ (ws.length + 1)
    rw [Nat.pow_succ, Nat.mul_comm (4 ^ _)]
    exact Nat.mul_le_mul c2 b
theorem Good.at_ {f : Fl} (h : Good f) {k : Nat} (hk : k < f.words.length) : wordE (f.words.getD k default) = 0 := h.each _ (getD_mem hk)
theorem Good.drop {f : Fl} (h : Good f) (k : Nat) : 1 ≤ sz (f.words.drop k) := (sz_range fun w hw => h.each w (List.mem_of_mem_drop hw)).1
theorem Good.sz {f : Fl} (h : Good f) : 1 ≤ sz f.words ∧ sz f.words ≤ 65536 := by
  have h1 := sz_range h.each
  have h2 : 4 ^ f.words.length ≤ 4 ^ 8 := Nat.pow_le_pow_right (by omega) h.words
  exact ⟨h1.1, Nat.le_trans h1.2 h2⟩
theorem size_step {f : Fl} (hf : Good f) {k n : Nat} (hk : k < f.words.length) (he : n * sz (f.words.drop k) = sz f.words) : n * (f.words.getD k default).length * sz (f.words.drop (k + 1)) = sz f.words ∧ n * (f.words.getD k default).length ≤ 65536 := by
  rw [sz_at hk, ← Nat.mul_assoc] at he
  refine ⟨he, ?_⟩
  have h1 := hf.drop (k + 1)
  have h2 : n * (f.words.getD k default).length * 1 ≤ n * (f.words.getD k default).length * sz (f.words.drop (k + 1)) := Nat.mul_le_mul_left _ h1
  have := hf.sz.2
  omega

theorem size_ok (f : Fl) (hf : Good f) : GC Tryd.prog 34 [flG f] (iG (sz f.words)) := by
  have hw := hf.words
  refine gc_of_gk Tryd.func34 ?_
  refine gk_region env false [] [1, 2] ?_ -- 0
  refine gk_region env false [] [1, 2, 3] ?_ -- 1
  refine gk_region env false [] [2, 3, 7, 8, 9] ?_ -- 2
  refine gk_loop (α := Nat × Nat) (fun x => x.1 ≤ f.words.length ∧ x.2 * sz (f.words.drop x.1) = sz f.words) (fun x => [(9, iG x.1), (3, iG x.2)]) (fun _ => []) (fun x => f.words.length - x.1) (0, 1) ⟨by simp, by simp⟩ ?_ -- loop 3
  rintro ⟨k, n⟩ ⟨hk, he⟩
  dsimp only at *
  refine gk_region env false [] [2, 3, 7, 8, 9, 10] ?_ -- 3
  refine gk_ifd (fun c1 => ?_) (fun c1 => ?_)
  · try simp only [toN] at c1
    refine gk_region env false [] [2, 3, 5, 7, 8, 9] ?_ -- 4
    have hk2 := size_step hf (show k < f.words.length by omega) he
    have hk3 : (n : Int) * ((f.words.getD k default).length : Int) = ((n * (f.words.getD k default).length : Nat) : Int) := (Int.natCast_mul _ _).symm
    refine gk_region env false [] [2, 3, 7, 8, 9] ?_ -- 5
    refine gk_region env false [] [2, 3, 7, 8, 9] ?_ -- 6
    refine gk_round ((k + 1, n * (f.words.getD k default).length)) ?_
    exact ⟨by simp only; omega, hk2.1⟩
  · try simp only [toN] at c1
    refine gk_region env false [] [2] ?_ -- 7
    refine gk_ret env ?_
    have e : k = f.words.length := by omega
    subst e
    rw [List.drop_length] at he
    have e2 : n = sz f.words := by rw [← he]; simp [sz]
    rw [e2]; rfl

theorem has_ok (d : Dc) (hd : Fit d) (n : Int) : GC Tryd.prog 39 [dcG d, iG n] (bG ((decide (checkE d = 0) && decide (0 ≤ n)) && decide (n < d.fields.length))) := by
  have hd2 := hd.fields
  refine gc_of_gk Tryd.func39 ?_
  refine gk_region env false [] [1, 2, 4] ?_ -- 0
  refine gk_region env false [.call (check_ok d hd)] [4] ?_ -- 1
  refine gk_ret env ?_
  simp [tupG]

def countF (fs : List Fl) (i n : Nat) : Int × Int := if i < fs.length then if 4096 < n * sz (fs.getD i default).words then (0, 6) else countF fs (i + 1) (n * sz (fs.getD i default).words) else (n, 0)
termination_by fs.length - i
def countE (d : Dc) : Int × Int := if checkE d = 0 then countF d.fields 0 1 else (0, checkE d)
theorem count_step {a b : Nat} (ha : a ≤ 4096) (hb : b ≤ 65536) : (a : Int) * (b : Int) = ((a * b : Nat) : Int) ∧ a * b ≤ 268435456 := by
  refine ⟨(Int.natCast_mul _ _).symm, ?_⟩
  have := Nat.mul_le_mul ha hb
  omega

theorem count_ok (d : Dc) (hd : Fit d) : GC Tryd.prog 10 [dcG d] (.tup [iG (countE d).1, iG (countE d).2]) := by
  have hd2 := hd.fields
  refine gc_of_gk Tryd.func10 ?_
  refine gk_region env false [] [1, 2, 3] ?_ -- 0
  refine gk_region env false [.call (check_ok d hd)] [1, 2, 3, 4] ?_ -- 1
  refine gk_region env false [] [1, 2, 3, 4, 11] ?_ -- 2
  refine gk_ifn (fun c1 => ?_) (fun c1 => ?_)
  · try simp only [toN] at c1
    refine gk_region env false [] [1, 2, 3] ?_ -- 3
    refine gk_ret env ?_
    rw [countE, if_neg c1]; rfl
  · try simp only [toN] at c1
    have hr := right_of c1
    refine gk_region env false [] [1, 2, 3, 5] ?_ -- 4
    refine gk_region env false [] [2, 3, 5, 14, 15, 16] ?_ -- 5
    refine gk_loop (α := Nat × Nat) (fun x => x.1 ≤ d.fields.length ∧ x.2 ≤ 4096 ∧ countF d.fields 0 1 = countF d.fields x.1 x.2) (fun x => [(16, iG x.1), (5, iG x.2)]) (fun _ => []) (fun x => d.fields.length - x.1) (0, 1) ⟨by simp, by simp, rfl⟩ ?_ -- loop 6
    rintro ⟨i, n⟩ ⟨hi, hn, he⟩
    dsimp only at *
    refine gk_region env false [] [2, 3, 5, 14, 15, 16, 17] ?_ -- 6
    refine gk_ifd (fun c2 => ?_) (fun c2 => ?_)
    · try simp only [toN] at c2
      refine gk_region env false [] [2, 3, 5, 7, 14, 15, 16] ?_ -- 7
      have hs := (hr.good _ (getD_mem (show i < d.fields.length by omega))).sz
      have hk := count_step hn hs.2
      refine gk_region env false [.call (size_ok (d.fields.getD i default) (hr.good _ (getD_mem (by omega))))] [2, 3, 5, 14, 15, 16] ?_ -- 8
      refine gk_region env false [] [2, 3, 5, 14, 15, 16, 25] ?_ -- 9
      refine gk_ifd (fun c3 => ?_) (fun c3 => ?_)
      · try simp only [toN] at c3
        refine gk_region env false [] [2, 3, 5, 14, 15, 16] ?_ -- 10
        refine gk_ret env ?_
        rw [countE, if_pos c1, he, countF, if_pos (by omega), if_pos (by omega)]; rfl
      · try simp only [toN] at c3
        refine gk_region env false [] [2, 3, 5, 14, 15, 16] ?_ -- 11
        refine gk_round ((i + 1, n * sz (d.fields.getD i default).words)) ?_
        refine ⟨by simp only; omega, by simp only; omega, he.trans ?_⟩
        rw [countF, if_pos (by omega), if_neg (by omega)]
    · try simp only [toN] at c2
      refine gk_region env false [] [2, 3] ?_ -- 12
      refine gk_ret env ?_
      rw [countE, if_pos c1, he, countF, if_neg (by omega)]; rfl

/-! the text of a reading -/
def wordsAt : List (List ByteArray) → Nat → List ByteArray
  | [], _ => []
  | w :: ws, i => w.getD (i / sz ws % w.length) default :: wordsAt ws i
theorem wordsAt_length (ws : List (List ByteArray)) (i : Nat) : (wordsAt ws i).length = ws.length := by
  induction ws with
  | nil => rfl
  | cons w ws ih => simp [wordsAt, ih]
theorem wordsAt_mem {ws : List (List ByteArray)} (h : ∀ w, w ∈ ws → wordE w = 0) {i : Nat} {s : ByteArray} (hs : s ∈ wordsAt ws i) : validS s = true := by
  induction ws with
  | nil => cases hs
  | cons w ws ih =>
    obtain ⟨c1, c2, c3, _⟩ := wordE_0 (h w List.mem_cons_self)
    rcases List.mem_cons.1 hs with e | hs
    · subst e; exact c3 _ (getD_mem (Nat.mod_lt _ c1))
    · exact ih (fun x hx => h x (List.mem_cons_of_mem _ hx)) hs
theorem validS_size {s : ByteArray} (h : validS s = true) : s.size ≤ 20 := by
  simp only [validS, Bool.and_eq_true, decide_eq_true_eq] at h; omega
def chosen (ws : List (List ByteArray)) (i k : Nat) : List ByteArray := List.replicate k default ++ (wordsAt (ws.drop k) i ++ List.replicate (8 - ws.length) default)
theorem chosen_top {ws : List (List ByteArray)} (h : ws.length ≤ 8) (i : Nat) : chosen ws i ws.length = List.replicate 8 default := by
  rw [chosen, List.drop_length, wordsAt, List.nil_append, List.replicate_append_replicate]; congr 1; omega
theorem chosen_length {ws : List (List ByteArray)} (h : ws.length ≤ 8) (i : Nat) {k : Nat} (hk : k ≤ ws.length) : (chosen ws i k).length = 8 := by
  simp only [chosen, List.length_append, List.length_replicate, wordsAt_length, List.length_drop]; omega
theorem putD_str {xs : List ByteArray} {k : Nat} (hk : k < xs.length) (s : ByteArray) : putD (rowL strC xs) k 0 [.sc (.string s)] = rowL strC (xs.set k s) := by
  have e : (rowL strC xs).getD k [] = [.sc (.string (xs.getD k default))] := by
    simp [rowL, List.getD_eq_getElem?_getD, List.getElem?_eq_getElem hk, strC]
  rw [putD, e]
  simp only [rowL, List.map_set]
  rfl
theorem chosen_set {ws : List (List ByteArray)} {i k : Nat} (hk : k < ws.length) : (chosen ws i (k + 1)).set k ((ws.getD k default).getD (i / sz (ws.drop (k + 1)) % (ws.getD k default).length) default) = chosen ws i k := by
  have e : wordsAt (ws.drop k) i = (ws.getD k default).getD (i / sz (ws.drop (k + 1)) % (ws.getD k default).length) default :: wordsAt (ws.drop (k + 1)) i := by rw [drop_at hk]; rfl
  rw [chosen, chosen, e, List.replicate_succ', List.append_assoc, List.set_append_right _ _ (by simp)]
  simp
theorem chosen_take {ws : List (List ByteArray)} (i : Nat) : (chosen ws i 0).take ws.length = wordsAt ws i := by
  rw [chosen, List.replicate_zero, List.nil_append, List.drop_zero, List.take_append_of_le_length (by rw [wordsAt_length]; exact Nat.le_refl _), List.take_of_length_le (by rw [wordsAt_length]; exact Nat.le_refl _)]
def joinS (xs : List ByteArray) (sep : ByteArray) : ByteArray := ⟨(Lib.join (xs.map bs) (bs sep)).toArray⟩
theorem join_length (sep : List UInt8) (hs : sep.length ≤ 1000) : ∀ (xs : List (List UInt8)), (∀ x, x ∈ xs → x.length ≤ 1000) → (Lib.join xs sep).length ≤ 2000 * xs.length := by
  intro xs
  match xs with
  | [] => intro _; simp [Lib.join]
  | [x] => intro h; have := h x List.mem_cons_self; simp [Lib.join, List.intercalate, List.intersperse]; omega
  | x :: y :: l =>
    intro h
    have ih := join_length sep hs (y :: l) fun z hz => h z (List.mem_cons_of_mem _ hz)
    have := h x List.mem_cons_self
    have e : Lib.join (x :: y :: l) sep = x ++ sep ++ Lib.join (y :: l) sep := by simp [Lib.join, List.intercalate, List.intersperse]
    rw [e]
    simp only [List.length_append, List.length_cons] at ih ⊢
    omega
theorem arr2 {us : Array Value} (h : us.size = 2) : ∃ u v, us = #[u, v] := by
  obtain ⟨l⟩ := us
  match l, h with
  | [u, v], _ => exact ⟨u, v, rfl⟩
theorem join_ok (xs : List ByteArray) (sep : ByteArray) (hN : xs.length ≤ 140737488355328) (hlen : (Lib.join (xs.map bs) (bs sep)).length ≤ 140737488355328) : GC Tryd.prog 59 [.d (.row default strC xs), sG sep] (sG (joinS xs sep)) := by
  refine gc_of_vrs Tryd.func59 rfl rfl rfl fun F w us hg hF hv => ?_
  have h2 : us.size = 2 := hv.1
  obtain ⟨u, v, rfl⟩ := arr2 h2
  have e1 := (hv.2 1 (sG sep) v rfl rfl).sc_eq.1
  subst e1
  obtain ⟨A, c, b, off, es, val, rfl, hA, hc, hl, hw, hFc, hd⟩ := (hv.2 0 _ u rfl rfl).row_inv
  by_cases hx : xs = []
  · subst hx
    refine (Tryd.strings_Join_none A c sep w).mono fun e w' ⟨h1, h2⟩ => ⟨_, fun _ _ => False, h1, h2 ▸ Below.refl _ _, fun _ _ h => h.elim, .d (.sc _ rfl)⟩
  · have hA' := hA hx
    subst hA'
    obtain ⟨x0, xl, hxx⟩ := List.exists_cons_of_ne_nil hx
    have hes : es = 1 := by have := hl x0 (by rw [hxx]; exact List.mem_cons_self); simpa [strC] using this.symm
    subst hes
    have hcell : ∀ (j : Nat) x, xs[j]? = some x → w.cell? ⟨b, off + j, none⟩ = some (.string x) := fun j x hj => by
      have h3 := hw j x 0 (.sc (.string x)) hj rfl
      have h4 := hd j x 0 (.sc (.string x)) hj rfl
      generalize val j 0 = z at h3 h4
      cases h4
      rw [Nat.mul_one, Nat.add_zero] at h3
      exact h3
    have hbk : b < w.heap.size := by
      have h3 : F b (off + 0 * 1 + 0) := hFc 0 x0 0 (.sc (.string x0)) (by rw [hxx]; rfl) rfl
      exact hF _ _ h3
    refine (Tryd.strings_Join b off c xs sep w hcell hbk hN hc hlen).mono fun e w' ⟨h1, h2⟩ => ⟨_, fun _ _ => False, h1, h2, fun _ _ h => h.elim, .d (.sc _ rfl)⟩
abbrev sp : ByteArray := ⟨#[32]⟩
def textF (f : Fl) (i : Nat) : ByteArray := joinS (wordsAt f.words i) sp
theorem text_join {f : Fl} (hf : Good f) (i : Nat) : (Lib.join ((wordsAt f.words i).map bs) (bs sp)).length ≤ 140737488355328 := by
  have := join_length (bs sp) (by simp [bs]) ((wordsAt f.words i).map bs) fun x hx => by
    obtain ⟨s, hs, rfl⟩ := List.mem_map.1 hx
    have := validS_size (wordsAt_mem hf.each hs)
    show s.data.toList.length ≤ 1000
    rw [Array.length_toList]; show s.size ≤ 1000; omega
  rw [List.length_map, wordsAt_length] at this
  have := hf.words
  omega

theorem text_ok (f : Fl) (hf : Good f) (i : Nat) (hi : i ≤ 9223372036854775807) : GC Tryd.prog 37 [flG f, iG i] (sG (textF f i)) := by
  have hw := hf.words
  refine gc_of_gk Tryd.func37 ?_
  refine gk_region env false [] [1, 2, 4] ?_ -- 0
  refine gk_region env false [.arr default strC (List.replicate 8 default)] [1, 2, 4, 5] ?_ -- 1
  refine gk_region env false [] [1, 2, 4, 5, 6] ?_ -- 2
  refine gk_loop (α := Nat) (fun j => j ≤ f.words.length) (fun j => [(6, iG ((j : Int) - 1)), (1, iG ((i / sz (f.words.drop j) : Nat)))]) (fun j => [(1, some (.row 80 1 default strC (chosen f.words i j) 0))]) (fun j => j) f.words.length (Nat.le_refl _) ?_ (hp := by simp only [AllP, chosen_top hf.words]; simp [sz]) -- loop 3
  rintro j hj
  refine gk_region env false [] [1, 2, 4, 5, 6, 13] ?_ -- 3
  refine gk_ifd (fun c1 => ?_) (fun c1 => ?_)
  · try simp only [toN] at c1
    obtain ⟨m, rfl⟩ : ∃ m, j = m + 1 := ⟨j - 1, by omega⟩
    have em : ((m + 1 : Nat) : Int) - 1 = (m : Int) := by omega
    simp only [em]
    have hm : m < f.words.length := by omega
    obtain ⟨w1, w2, _⟩ := wordE_0 (hf.at_ hm)
    have hq : i / sz (f.words.drop (m + 1)) ≤ i := Nat.div_le_self _ _
    have hcs := chosen_set (i := i) hm
    have hdv : i / sz (f.words.drop m) = i / sz (f.words.drop (m + 1)) / (f.words.getD m default).length := by rw [sz_at hm, Nat.mul_comm, Nat.div_div_eq_div_mul]
    generalize i / sz (f.words.drop (m + 1)) = x at hq hcs hdv ⊢
    have hmod : (x : Int) % ((f.words.getD m default).length : Int) = ((x % (f.words.getD m default).length : Nat) : Int) := (Int.natCast_emod _ _).symm
    have hlt : x % (f.words.getD m default).length < (f.words.getD m default).length := Nat.mod_lt _ w1
    have hdiv : (x : Int) / ((f.words.getD m default).length : Int) = ((x / (f.words.getD m default).length : Nat) : Int) := (Int.natCast_ediv _ _).symm
    have hdl : x / (f.words.getD m default).length ≤ x := Nat.div_le_self _ _
    have hcl := chosen_length hf.words i (show m + 1 ≤ f.words.length by omega)
    refine gk_region env false [] [1, 2, 4, 5, 6, 7] ?_ -- 5
    refine gk_region env false [.el default strC (chosen f.words i m)] [1, 2, 4, 5, 6, 7] ?_ (hp := (by simp only [AllP, bb, toN, hmod, hcl]; generalize x % (f.words.getD m default).length = y at hlt hcs ⊢; rw [← hcs]; repeat' first | exact trivial | exact EntL.refl _ | exact rfl | omega | apply And.intro | intro _ | (simp; done) | exact (putD_str (by rw [hcl]; omega) _).symm)) -- 6
    refine gk_region env false [] [1, 2, 4, 5, 6] ?_ (hp := (by simp only [AllP, bb, toN, hdiv]; generalize x / (f.words.getD m default).length = z at hdl ⊢; repeat' first | exact trivial | exact EntL.refl _ | exact rfl | omega | apply And.intro | intro _)) -- 7
    refine gk_region env false [] [1, 2, 4, 5, 6] ?_ -- 4
    refine gk_round (m) ?_ (hp := by simp only [AllP, hdv]; simp)
    omega
  · try simp only [toN] at c1
    obtain rfl : j = 0 := by omega
    refine gk_region env false [.call (join_ok (wordsAt f.words i) sp (by rw [wordsAt_length]; omega) (text_join hf i))] [4] ?_ (hp := (by simp only [AllP, bb, toN, loI, hiI, chosen_length hf.words i (Nat.zero_le _), chosen_take]; repeat' first | exact trivial | exact EntL.refl _ | exact rfl | omega | apply And.intro | intro _)) -- 8
    refine gk_ret env ?_
    simp [tupG, textF]
end Go.Gh
