/- Walks by the logic of calls, and plain laws. -/
import Derived.Test.YthdmcpbmmgmlcaaDoorGScH
namespace Go.Gh
open Go Go.Proofs
set_option maxRecDepth 1000000
set_option maxHeartbeats 2000000
set_option linter.unusedSimpArgs false
set_option linter.unusedVariables false
open Go.RowKit

theorem arr1 {us : Array Value} (h : us.size = 1) : ∃ u, us = #[u] := by
  obtain ⟨l⟩ := us
  match l, h with
  | [u], _ => exact ⟨u, rfl⟩
theorem owns_row {w : World} {base ty : Nat} {v : Value} {xs : List ByteArray} (h : w.ownsRow base ty 1 v xs.length (xs.map Value.string)) : ∃ Fn : Fz, (∀ b o, Fn b o → base ≤ b ∧ (w.cell? ⟨b, o, none⟩).isSome = true) ∧ DR Fn w (.row default strC xs) v := by
  rcases h.2 with ⟨rfl, h0⟩ | ⟨g, cap, cur, rfl, hg, hw, h1, h2, h3, h4⟩
  · have := List.eq_nil_of_length_eq_zero h0
    subst this
    exact vr_row (A := none) (c := 0) (xs := ([] : List ByteArray)) (f := fun s => [.string s]) (es := 1) base (fun _ => rfl) (fun _ => rfl) (fun x u hu => by simp at hu; subst hu; rfl) (Nat.le_refl _) (fun h => absurd rfl h)
  · refine vr_row (A := some ⟨g, 0, none⟩) (c := cap) (xs := xs) (f := fun s => [.string s]) (es := 1) base (fun _ => rfl) (fun _ => rfl) (fun x u hu => by simp at hu; subst hu; rfl) h1 (fun hne => ⟨g, 0, rfl, hg, fun i x hx j u hu => ?_⟩)
    have hj : j = 0 := by have := (List.getElem?_eq_some_iff.1 hu).1; simpa using this
    subst hj
    simp at hu
    subst hu
    have hi : i < xs.length := (List.getElem?_eq_some_iff.1 hx).1
    have h5 := congrArg (·[i]?) h4
    simp only [List.getElem?_take, Nat.mul_one, hi, if_true, List.getElem?_map, hx, Option.map_some] at h5
    rw [Nat.zero_add, Nat.mul_one, Nat.add_zero, cell_at hw]
    simpa using h5
theorem clone_ok (xs : List ByteArray) (hN : xs.length ≤ 1000000) : GC Tryd.prog 44 [rowS xs] (rowS xs) := by
  refine gc_of_vrs Tryd.func44 rfl rfl rfl fun F w us hg hF hv => ?_
  have h2 : us.size = 1 := hv.1
  obtain ⟨u, rfl⟩ := arr1 h2
  obtain ⟨A, c, b, off, es, val, rfl, hA, hc, hl, hw, hFc, hd⟩ := (hv.2 0 _ u rfl rfl).row_inv
  have fin : ∀ (v : Value) (w' : World), w'.ownsRow w.heap.size 9 1 v xs.length (xs.map Value.string) → Below w.heap.size w w' → ∃ (v' : Value) (Fn : Fz), Ending.returned v = .returned v' ∧ Below w.heap.size w w' ∧ (∀ b o, Fn b o → w.heap.size ≤ b ∧ (w'.cell? ⟨b, o, none⟩).isSome = true) ∧ VR (fun _ => none) Fn w' (rowS xs) v' := fun v w' h1 h2 => by
    obtain ⟨Fn, f1, f2⟩ := owns_row h1
    exact ⟨v, Fn, rfl, h2, f1, .d f2⟩
  by_cases hx : xs = []
  · subst hx
    cases A with
    | none => exact (Tryd.slices_Clone_string_nil 0 c w).mono fun e w' ⟨h1, h2⟩ => by subst h1 h2; exact fin _ _ ⟨rfl, .inl ⟨rfl, rfl⟩⟩ (Below.refl _ _)
    | some a => exact (Tryd.slices_Clone_string_zero a c w).mono fun e w' ⟨v', h1, h2, _, h3⟩ => by subst h1; exact fin _ _ h2 h3
  · have hA' := hA hx
    subst hA'
    obtain ⟨x0, xl, hxx⟩ := List.exists_cons_of_ne_nil hx
    have hes : es = 1 := by have := hl x0 (by rw [hxx]; exact List.mem_cons_self); simpa [strC] using this.symm
    subst hes
    have hcell : ∀ j, j < xs.length → w.cell? ⟨b, off + j, none⟩ = some (.string (xs.getD j ByteArray.empty)) := fun j hj => by
      have hx : xs[j]? = some (xs.getD j ByteArray.empty) := by rw [List.getD_eq_getElem?_getD, List.getElem?_eq_getElem hj]; rfl
      have h3 := hw j _ 0 (.sc (.string (xs.getD j ByteArray.empty))) hx rfl
      have h4 := hd j _ 0 (.sc (.string (xs.getD j ByteArray.empty))) hx rfl
      generalize val j 0 = z at h3 h4
      cases h4
      rw [Nat.mul_one, Nat.add_zero] at h3
      exact h3
    refine (Tryd.slices_Clone_string b off xs.length c xs w (Nat.le_refl _) (by omega) hcell).mono fun e w' ⟨v', h1, h2, _, h3⟩ => ?_
    subst h1
    rw [List.take_length] at h2
    exact fin _ _ h2 h3
/-- a field of the document that Set makes -/
def setF (n : Int) (t : ByteArray) (i : Nat) (f : Fl) : Fl := if (i : Int) = n then ⟨f.name, (wordsF t).map fun s => [s]⟩ else f
def setL (d : Dc) (n : Int) (t : ByteArray) (i : Nat) : List Fl := (List.range i).map fun j => setF n t j (d.fields.getD j default)
def setD (d : Dc) (n : Int) (t : ByteArray) : Dc := ⟨d.kind, setL d n t d.fields.length⟩
def inForm (t : ByteArray) : Bool := decide ((wordsF t).length ≤ 8) && (wordsF t).all validS
def setE (d : Dc) (n : Int) (t : ByteArray) : Dc × Int := if checkE d = 0 then if hasB d n = true then if inForm t = true then (setD d n t, 0) else (⟨⟨#[]⟩, []⟩, 2) else (⟨⟨#[]⟩, []⟩, 4) else (⟨⟨#[]⟩, []⟩, checkE d)
theorem any_bad (l : List ByteArray) : (l.any fun x => !validS x) = !(l.all validS) := by
  induction l with
  | nil => rfl
  | cons a l ih => simp [List.any_cons, List.all_cons, ih]
theorem setL_succ (d : Dc) (n : Int) (t : ByteArray) (i : Nat) : setL d n t (i + 1) = setL d n t i ++ [setF n t i (d.fields.getD i default)] := by simp [setL, List.range_succ]
theorem setL_length (d : Dc) (n : Int) (t : ByteArray) (i : Nat) : (setL d n t i).length = i := by simp [setL]
theorem ent_dc0 : Ent (.agg [sG ⟨#[]⟩, .d (.sc (.slice none 0 0))]) (dcG ⟨⟨#[]⟩, []⟩) := Ent.agg ⟨Ent.refl _, Ent.nil, trivial⟩
theorem take_getD {α : Type} [Inhabited α] {l : List α} {k : Nat} (h : k < l.length) : l.take (k + 1) = l.take k ++ [l.getD k default] := by
  rw [List.take_succ_eq_append_getElem h, List.getD_eq_getElem?_getD, List.getElem?_eq_getElem h]; rfl
def wa (n : Int) (i : Nat) (f : Fl) (k : Nat) : List (List ByteArray) := if (i : Int) = n then [] else f.words.take k
def wb (n : Int) (i : Nat) (f : Fl) (ws : List ByteArray) (k : Nat) : List (List ByteArray) := if (i : Int) = n then (ws.take k).map fun s => [s] else f.words
theorem wa_len (n : Int) (i : Nat) (f : Fl) (k : Nat) : (wa n i f k).length ≤ k := by
  unfold wa; split
  · simp
  · simp; omega
theorem wa_succ {n : Int} {i : Nat} {f : Fl} {k : Nat} (h : ¬ (i : Int) = n) (hk : k < f.words.length) : wa n i f (k + 1) = wa n i f k ++ [f.words.getD k default] := by
  unfold wa; rw [if_neg h, if_neg h, take_getD hk]
theorem wa_same {n : Int} {i : Nat} {f : Fl} {k : Nat} (h : (i : Int) = n) : wa n i f (k + 1) = wa n i f k := by
  unfold wa; rw [if_pos h, if_pos h]
theorem wa_0 (n : Int) (i : Nat) (f : Fl) : wa n i f 0 = [] := by unfold wa; split <;> simp
theorem wb_0 (n : Int) (i : Nat) (f : Fl) (ws : List ByteArray) : wb n i f ws 0 = wa n i f f.words.length := by unfold wa wb; split <;> simp
theorem wb_succ {n : Int} {i : Nat} {f : Fl} {ws : List ByteArray} {k : Nat} (h : (i : Int) = n) (hk : k < ws.length) : wb n i f ws (k + 1) = wb n i f ws k ++ [[ws.getD k default]] := by
  unfold wb; rw [if_pos h, if_pos h, take_getD hk]; simp
theorem wb_same {n : Int} {i : Nat} {f : Fl} {ws : List ByteArray} {k : Nat} (h : ¬ (i : Int) = n) : wb n i f ws (k + 1) = wb n i f ws k := by
  unfold wb; rw [if_neg h, if_neg h]
theorem wb_len (n : Int) (i : Nat) (f : Fl) (ws : List ByteArray) (k : Nat) : (wb n i f ws k).length ≤ k + f.words.length := by
  unfold wb; split
  · simp; omega
  · omega
theorem wb_end (n : Int) (i : Nat) (f : Fl) (t : ByteArray) : setF n t i f = ⟨f.name, wb n i f (wordsF t) (wordsF t).length⟩ := by
  unfold wb setF
  split
  · rw [List.take_length]
  · rfl

theorem set_ok (d : Dc) (hd : Fit d) (n : Int) (t : ByteArray) (ht : t.size ≤ 1000000) : GC Tryd.prog 16 [dcG d, iG n, sG t] (.tup [dcG (setE d n t).1, iG (setE d n t).2]) := by
  have hd2 := hd.fields
  have hwl := wordsF_len t
  have hws := wordsF_str t
  refine gc_of_gk Tryd.func16 ?_
  refine gk_region env false [] [1, 2, 3, 6, 7] ?_ -- 0
  refine gk_region env false [.call (split_ok t ht)] [1, 3, 6, 7, 8] ?_ -- 1
  refine gk_region env false [.call (check_ok d hd)] [1, 3, 6, 7, 8, 9] ?_ -- 2
  refine gk_region env false [] [1, 3, 6, 7, 8, 9, 22] ?_ -- 3
  refine gk_ifn (fun c1 => ?_) (fun c1 => ?_)
  · try simp only [toN] at c1
    refine gk_region env false [] [1, 3, 6, 7, 8] ?_ -- 4
    refine gk_retE env ?_
    rw [setE, if_neg c1]; exact Ent.tup ⟨ent_dc0, Ent.refl _, trivial⟩
  · try simp only [toN] at c1
    refine gk_region env false [.call (has_ok d hd n)] [1, 3, 6, 7, 8, 27] ?_ -- 5
    refine gk_if (fun c2 => ?_) (fun c2 => ?_)
    · try simp only [bb, toN] at c2
      refine gk_region env false [] [1, 3, 6, 7, 8] ?_ -- 6
      refine gk_retE env ?_
      have hb : hasB d n = false := by
        cases hb : hasB d n with
        | false => rfl
        | true => obtain ⟨a1, a2, a3⟩ := hasB_at hb; omega
      rw [setE, if_pos c1, if_neg (by simp [hb])]; exact Ent.tup ⟨ent_dc0, Ent.refl _, trivial⟩
    · try simp only [bb, toN] at c2
      refine gk_region env false [.call (hasT_ok (wordsF t) (by omega) (fun s h => by have := hws s h; omega))] [1, 3, 6, 7, 8, 33] ?_ -- 7
      refine gk_if (fun c3 => ?_) (fun c3 => ?_)
      · try simp only [bb, toN] at c3
        refine gk_region env false [] [1, 3, 6, 7, 8] ?_ -- 8
        refine gk_retE env ?_
        have hb : hasB d n = true := by simpa [hasB, and_assoc] using c2
        have hi : ¬ inForm t = true := by
          simp only [any_bad] at c3
          simp only [inForm, Bool.and_eq_true, decide_eq_true_eq]
          rintro ⟨e1, e2⟩
          rcases c3 with h | h
          · omega
          · rw [e2] at h; cases h
        rw [setE, if_pos c1, if_pos hb, if_neg hi]; exact Ent.tup ⟨ent_dc0, Ent.refl _, trivial⟩
      · try simp only [bb, toN] at c3
        refine gk_region env false [] [1, 3, 6, 7, 8, 10] ?_ -- 9
        refine gk_nilB 2 1 51 2 (default : Fl) flC ?_
        refine gk_region env false [] [1, 6, 7, 8, 10, 46, 47, 48] ?_ -- 10
        refine gk_loop (α := Nat) (fun i => i ≤ d.fields.length) (fun i => [(48, iG i)]) (fun i => [(2, some (.box [sG d.kind, .sl 3 2 0 i])), (3, some (.row 51 2 default flC (setL d n t i) 0))]) (fun i => d.fields.length - i) 0 (Nat.zero_le _) ?_ (hp := by simp [AllP, setL]) -- loop 11
        rintro i hi
        have hf := fun h : i < d.fields.length => hd.at_ h
        refine gk_region env false [] [1, 6, 7, 8, 10, 46, 47, 48, 49] ?_ -- 11
        refine gk_ifd (fun c4 => ?_) (fun c4 => ?_)
        · try simp only [toN] at c4
          refine gk_region env false [] [1, 6, 7, 8, 10, 11, 12, 46, 47, 48] ?_ -- 12
          refine gk_region env false [] [1, 6, 7, 8, 10, 11, 12, 13, 46, 47, 48] ?_ -- 13
          refine gk_nilB 5 1 54 1 (default : List ByteArray) wdC ?_
          refine gk_region env false [] [1, 6, 7, 8, 10, 11, 13, 46, 47, 48, 57, 58, 59] ?_ -- 14
          refine gk_loop (α := Nat) (fun k => k ≤ (d.fields.getD i default).words.length) (fun k => [(59, iG k)]) (fun k => [(5, some (.box [sG (d.fields.getD i default).name, .sl 6 1 0 (wa n i (d.fields.getD i default) k).length])), (6, some (.row 54 1 default wdC (wa n i (d.fields.getD i default) k) 0))]) (fun k => (d.fields.getD i default).words.length - k) 0 (Nat.zero_le _) ?_ (hp := by simp only [AllP, wa_0]; repeat' first | exact trivial | exact rfl | apply And.intro) -- loop 15
          rintro k hk
          refine gk_region env false [] [1, 6, 7, 8, 10, 11, 13, 46, 47, 48, 57, 58, 59, 60] ?_ -- 15
          refine gk_ifd (fun c5 => ?_) (fun c5 => ?_)
          · try simp only [toN] at c5
            refine gk_region env false [] [1, 6, 7, 8, 10, 11, 13, 15, 46, 47, 48, 57, 58, 59] ?_ -- 16
            refine gk_region env false [] [1, 6, 7, 8, 10, 11, 13, 15, 46, 47, 48, 57, 58, 59, 65] ?_ -- 17
            refine gk_ifn (fun c6 => ?_) (fun c6 => ?_)
            · try simp only [toN] at c6
              have hfk := (hf (by omega)).at_ (show k < (d.fields.getD i default).words.length by omega)
              have hwa := wa_succ c6 (show k < (d.fields.getD i default).words.length by omega)
              have hwl2 := wa_len n i (d.fields.getD i default) k
              have hfw := (hf (by omega)).words
              refine gk_region env false [.call (clone_ok ((d.fields.getD i default).words.getD k default) (by omega)), .el default wdC [(d.fields.getD i default).words.getD k default], .el default wdC (wa n i (d.fields.getD i default) (k + 1))] [1, 6, 7, 8, 10, 11, 13, 46, 47, 48, 57, 58, 59] ?_ (hp := (by simp only [AllP, Int.toNat_natCast]; rw [hwa]; repeat' first | exact trivial | exact EntL.refl _ | exact BEntL.refl _ | exact rfl | omega | apply And.intro | intro _ | (simp [rowL]; done) | (simp only [List.length_append, List.length_cons, List.length_nil]; omega))) -- 18
              have hfw := (hf (by omega)).words
              refine gk_region env false [] [1, 6, 7, 8, 10, 11, 13, 46, 47, 48, 57, 58, 59] ?_ (hp := (by simp only [AllP, toN]; repeat' first | exact trivial | exact EntL.refl _ | exact rfl | omega | apply And.intro | intro _)) -- 19
              refine gk_round (k + 1) ?_ (hp := by simp only [AllP, hwa]; simp)
              omega
            · try simp only [toN] at c6
              have hfw := (hf (by omega)).words
              refine gk_region env false [] [1, 6, 7, 8, 10, 11, 13, 46, 47, 48, 57, 58, 59] ?_ (hp := (by simp only [AllP, toN]; repeat' first | exact trivial | exact EntL.refl _ | exact rfl | omega | apply And.intro | intro _)) -- 19
              refine gk_round (k + 1) ?_ (hp := (by rw [wa_same (f := d.fields.getD i default) (k := k) c6]; simp only [AllP]; repeat' first | exact trivial | exact rfl | omega | apply And.intro))
              omega
          · try simp only [toN] at c5
            refine gk_region env false [] [1, 6, 7, 8, 10, 11, 13, 46, 47, 48, 76, 77, 78] ?_ -- 20
            refine gk_loop (α := Nat) (fun k2 => k2 ≤ (wordsF t).length) (fun k2 => [(78, iG k2)]) (fun k2 => [(5, some (.box [sG (d.fields.getD i default).name, .sl 6 1 0 (wb n i (d.fields.getD i default) (wordsF t) k2).length])), (6, some (.row 54 1 default wdC (wb n i (d.fields.getD i default) (wordsF t) k2) 0))]) (fun k2 => (wordsF t).length - k2) 0 (Nat.zero_le _) ?_ (hp := (by obtain rfl : k = (d.fields.getD i default).words.length := (by omega); simp only [AllP, wb_0]; repeat' first | exact trivial | exact rfl | apply And.intro)) -- loop 21
            rintro k2 hk2
            refine gk_region env false [] [1, 6, 7, 8, 10, 11, 13, 46, 47, 48, 76, 77, 78, 79] ?_ -- 21
            refine gk_ifd (fun c7 => ?_) (fun c7 => ?_)
            · try simp only [toN] at c7
              refine gk_region env false [] [1, 6, 7, 8, 10, 11, 13, 17, 46, 47, 48, 76, 77, 78] ?_ -- 22
              refine gk_region env false [] [1, 6, 7, 8, 10, 11, 13, 17, 46, 47, 48, 76, 77, 78, 84] ?_ -- 23
              refine gk_ifd (fun c8 => ?_) (fun c8 => ?_)
              · try simp only [toN] at c8
                have hwb := wb_succ (f := d.fields.getD i default) c8 (show k2 < (wordsF t).length by omega)
                have hwl2 := wb_len n i (d.fields.getD i default) (wordsF t) k2
                have hfw := (hf (by omega)).words
                refine gk_region env false [.el default strC [(wordsF t).getD k2 default], .fz, .el default wdC [[(wordsF t).getD k2 default]], .el default wdC (wb n i (d.fields.getD i default) (wordsF t) (k2 + 1))] [1, 6, 7, 8, 10, 11, 13, 46, 47, 48, 76, 77, 78] ?_ (hp := (by simp only [AllP, obP, Int.toNat_natCast]; rw [hwb]; repeat' first | exact trivial | exact EntL.refl _ | exact BEntL.refl _ | exact rfl | omega | apply And.intro | intro _ | (simp [rowL]; done) | (simp only [List.length_append, List.length_cons, List.length_nil]; omega))) -- 24
                refine gk_region env false [] [1, 6, 7, 8, 10, 11, 13, 46, 47, 48, 76, 77, 78] ?_ (hp := (by simp only [AllP, toN]; repeat' first | exact trivial | exact EntL.refl _ | exact rfl | omega | apply And.intro | intro _)) -- 25
                refine gk_round (k2 + 1) ?_ (hp := by simp only [AllP, hwb]; simp)
                omega
              · try simp only [toN] at c8
                refine gk_region env false [] [1, 6, 7, 8, 10, 11, 13, 46, 47, 48, 76, 77, 78] ?_ (hp := (by simp only [AllP, toN]; repeat' first | exact trivial | exact EntL.refl _ | exact rfl | omega | apply And.intro | intro _)) -- 25
                refine gk_round (k2 + 1) ?_ (hp := (by rw [wb_same (f := d.fields.getD i default) (ws := wordsF t) (k := k2) c8]; simp only [AllP]; repeat' first | exact trivial | exact rfl | omega | apply And.intro))
                omega
            · try simp only [toN] at c7
              obtain rfl : k2 = (wordsF t).length := by omega
              have hse := wb_end n i (d.fields.getD i default) t
              have hsl := setL_succ d n t i
              have hln := setL_length d n t i
              refine gk_region env false [.fz, .el default flC [setF n t i (d.fields.getD i default)], .el default flC (setL d n t (i + 1))] [1, 6, 7, 8, 10, 46, 47, 48] ?_ (hp := (by simp only [AllP, obP, Int.toNat_natCast]; rw [hsl, hse]; repeat' first | exact trivial | exact hln | exact hln.symm | exact EntL.refl _ | exact BEntL.refl _ | exact rfl | omega | apply And.intro | intro _ | (simp [rowL]; done) | (simp only [List.length_append, List.length_cons, List.length_nil]; omega))) -- 26
              refine gk_region env false [] [1, 6, 7, 8, 10, 46, 47, 48] ?_ -- 27
              refine gk_round (i + 1) ?_ (hp := by simp [AllP, setL_length])
              omega
        · try simp only [toN] at c4
          refine gk_region env false [] [6, 7] ?_ -- 28
          refine gk_ret env ?_ (hp := by have := setL_length d n t i; simp only [AllP]; omega)
          have hb : hasB d n = true := by simpa [hasB, and_assoc] using c2
          have hi2 : inForm t = true := by
            simp only [any_bad] at c3
            simp only [inForm, Bool.and_eq_true, decide_eq_true_eq]
            exact ⟨by omega, by simpa using c3.2⟩
          obtain rfl : i = d.fields.length := by omega
          rw [setE, if_pos c1, if_pos hb, if_pos hi2]; rfl
end Go.Gh
