/- Walks by the logic of calls, and plain laws. -/
import Derived.Test.YthdmcpbmmgmlcaaDoorGScV
import Derived.Test.YthdmcpbmmgmlcaaDoorGh3
namespace Go.Gh
open Go Go.Proofs
set_option maxRecDepth 1000000
set_option maxHeartbeats 2000000
set_option linter.unusedSimpArgs false
set_option linter.unusedVariables false
open Go.RowKit

theorem lgetD_set {α : Type} [Inhabited α] {l : List α} {i j : Nat} {a : α} (hi : i < l.length) : (l.set i a).getD j default = if j = i then a else l.getD j default := by
  rw [List.getD_eq_getElem?_getD, List.getD_eq_getElem?_getD, List.getElem?_set]
  by_cases e : i = j
  · rw [if_pos e, if_pos hi, if_pos e.symm]; rfl
  · rw [if_neg e, if_neg (fun q => e q.symm)]
def moreF (f : Fl) (y : Nat) (s : ByteArray) : Fl := ⟨f.name, f.words.set y (f.words.getD y default ++ [s])⟩
def moreD (d : Dc) (x y : Nat) (s : ByteArray) : Dc := ⟨d.kind, d.fields.set x (moreF (d.fields.getD x default) y s)⟩
theorem more_len (d : Dc) (x y : Nat) (s : ByteArray) : (moreD d x y s).fields.length = d.fields.length := by simp [moreD]
theorem more_at {d : Dc} {x y : Nat} {s : ByteArray} (hx : x < d.fields.length) : (moreD d x y s).fields.getD x default = moreF (d.fields.getD x default) y s := by
  show (d.fields.set x _).getD x default = _
  rw [lgetD_set hx, if_pos rfl]
theorem more_word {f : Fl} {y : Nat} {s : ByteArray} (hy : y < f.words.length) (j : Nat) : (moreF f y s).words.getD j default = if j = y then f.words.getD y default ++ [s] else f.words.getD j default := lgetD_set hy
theorem more_fit {d : Dc} (hd : Fit d) (hr : Right d) {x y : Nat} {s : ByteArray} (hx : x < d.fields.length) (hy : y < (d.fields.getD x default).words.length) (hs : s.size ≤ 100) : Fit (moreD d x y s) := by
  have hm := getD_mem hx
  have hf := hd.each _ hm
  have hw := getD_mem hy
  have hl := (wordE_0 ((hr.good _ hm).each _ hw)).2.1
  refine ⟨hd.kind, by rw [more_len]; exact hd.fields, fun f h => ?_⟩
  rcases List.mem_or_eq_of_mem_set h with h | h
  · exact hd.each f h
  · subst h
    refine ⟨hf.name, by simpa [moreF] using hf.words, fun w h => ?_, fun w h t ht => ?_⟩
    · rcases List.mem_or_eq_of_mem_set h with h | h
      · exact hf.sp w h
      · subst h; rw [List.length_append, List.length_singleton]; omega
    · rcases List.mem_or_eq_of_mem_set h with h | h
      · exact hf.str w h t ht
      · subst h
        rcases List.mem_append.1 ht with ht | ht
        · exact hf.str _ hw t ht
        · rw [List.mem_singleton.1 ht]; omega
theorem more_has {d : Dc} {x y : Nat} {s : ByteArray} (hx : x < d.fields.length) (hc : checkE (moreD d x y s) = 0) : hasB (moreD d x y s) x = true := hasB_of hc (by rw [more_len]; exact hx)
theorem more_poss {d : Dc} {x y : Nat} {s t : ByteArray} (h0 : checkE d = 0) (hx : x < d.fields.length) (hy : y < (d.fields.getD x default).words.length) (hc : checkE (moreD d x y s) = 0) (h : possV d x t = true) : possV (moreD d x y s) x t = true := by
  rw [possV_iff (hasB_of h0 hx)] at h
  rw [possV_iff (more_has hx hc)]
  obtain ⟨h1, h2⟩ := h
  have e : fieldAt (moreD d x y s) x = moreF (d.fields.getD x default) y s := more_at hx
  rw [e]
  refine ⟨by rw [h1]; simp [moreF, fieldAt], fun j hj => ?_⟩
  rw [more_word hy]
  have h3 : (wordsF t).getD j default ∈ (d.fields.getD x default).words.getD j default := h2 j hj
  split
  · rename_i q; subst q; exact List.mem_append_left _ h3
  · exact h3
theorem tot_set (f' : Fl) : ∀ {fs : List Fl} {x : Nat}, x < fs.length → tot (fs.set x f') * sz (fs.getD x default).words = tot fs * sz f'.words := by
  intro fs
  induction fs with
  | nil => intro x h; simp at h
  | cons f fs ih =>
    intro x h
    cases x with
    | zero =>
      show sz f'.words * tot fs * sz f.words = sz f.words * tot fs * sz f'.words
      rw [Nat.mul_comm, ← Nat.mul_assoc, Nat.mul_right_comm]
    | succ x =>
      show sz f.words * tot (fs.set x f') * sz (fs.getD x default).words = sz f.words * tot fs * sz f'.words
      rw [Nat.mul_assoc, ih (by simpa using h), Nat.mul_assoc]
theorem sz_set (w' : List ByteArray) : ∀ {ws : List (List ByteArray)} {y : Nat}, y < ws.length → sz (ws.set y w') * (ws.getD y default).length = sz ws * w'.length := by
  intro ws
  induction ws with
  | nil => intro x h; simp at h
  | cons w ws ih =>
    intro y h
    cases y with
    | zero =>
      show w'.length * sz ws * w.length = w.length * sz ws * w'.length
      rw [Nat.mul_comm, ← Nat.mul_assoc, Nat.mul_right_comm]
    | succ y =>
      show w.length * sz (ws.set y w') * (ws.getD y default).length = w.length * sz ws * w'.length
      rw [Nat.mul_assoc, ih (by simpa using h), Nat.mul_assoc]
theorem more_tot {d : Dc} (hr : Right d) {x y : Nat} (s : ByteArray) (hx : x < d.fields.length) (hy : y < (d.fields.getD x default).words.length) : tot (moreD d x y s).fields = tot d.fields / ((d.fields.getD x default).words.getD y default).length * (((d.fields.getD x default).words.getD y default).length + 1) := by
  have hg := hr.good _ (getD_mem hx)
  have h1 := tot_set (moreF (d.fields.getD x default) y s) hx
  have h2 : sz (moreF (d.fields.getD x default) y s).words * ((d.fields.getD x default).words.getD y default).length = sz (d.fields.getD x default).words * (((d.fields.getD x default).words.getD y default).length + 1) := by
    have := sz_set ((d.fields.getD x default).words.getD y default ++ [s]) hy
    rw [List.length_append, List.length_singleton] at this
    exact this
  have h3 := hg.sz.1
  have h4 := (wordE_0 (hg.at_ hy)).1
  have d1 : ((d.fields.getD x default).words.getD y default).length ∣ sz (d.fields.getD x default).words := ⟨sz ((d.fields.getD x default).words.set y [default]), by
    have := sz_set [default] hy
    rw [List.length_singleton, Nat.mul_one] at this
    rw [← this, Nat.mul_comm]⟩
  have d2 : sz (d.fields.getD x default).words ∣ tot d.fields := ⟨tot (d.fields.set x ⟨default, []⟩), by
    have := tot_set ⟨default, []⟩ hx
    have e : sz (Fl.mk default []).words = 1 := rfl
    rw [e, Nat.mul_one] at this
    rw [← this, Nat.mul_comm]⟩
  obtain ⟨q, hq⟩ := Nat.dvd_trans d1 d2
  have h5 : tot (moreD d x y s).fields * sz (d.fields.getD x default).words = tot d.fields * sz (moreF (d.fields.getD x default) y s).words := h1
  generalize tot (moreD d x y s).fields = X at h5 ⊢
  generalize sz (moreF (d.fields.getD x default) y s).words = S' at h2 h5
  generalize sz (d.fields.getD x default).words = S at h2 h3 h5
  generalize ((d.fields.getD x default).words.getD y default).length = l at *
  generalize tot d.fields = t at *
  subst hq
  rw [Nat.mul_div_cancel_left _ (by omega)]
  have h6 : S * l * X = S * l * (q * (l + 1)) := by
    have a1 : X * S * l = l * q * (S' * l) := by rw [h5, Nat.mul_assoc]
    rw [h2] at a1
    calc S * l * X = X * S * l := by rw [Nat.mul_comm, ← Nat.mul_assoc]
      _ = l * q * (S * (l + 1)) := a1
      _ = S * l * (q * (l + 1)) := by rw [Nat.mul_comm l q, Nat.mul_assoc, ← Nat.mul_assoc l S, Nat.mul_comm l S, Nat.mul_left_comm]
  exact Nat.eq_of_mul_eq_mul_left (Nat.mul_pos h3 h4) h6
theorem countE_bound (d : Dc) : 0 ≤ (countE d).1 ∧ (countE d).1 ≤ 4096 := by
  rcases countE_or d with h | h
  · obtain ⟨_, h1, h2⟩ := countE_yes h
    omega
  · omega
def pickW (ws : List (List ByteArray)) (y : Nat) (s : ByteArray) : List ByteArray := (ws.map fun w => w.getD 0 default).set y s
theorem pickW_len (ws : List (List ByteArray)) (y : Nat) (s : ByteArray) : (pickW ws y s).length = ws.length := by simp [pickW]
theorem pickW_at {ws : List (List ByteArray)} {y : Nat} {s : ByteArray} (hy : y < ws.length) {k : Nat} (hk : k < ws.length) : (pickW ws y s).getD k default = if k = y then s else (ws.getD k default).getD 0 default := by
  rw [pickW, lgetD_set (by simpa using hy)]
  split
  · rfl
  · rw [List.getD_eq_getElem?_getD, List.getElem?_map, List.getElem?_eq_getElem hk, List.getD_eq_getElem?_getD (l := ws), List.getElem?_eq_getElem hk]; rfl
theorem more_valid {d : Dc} {x y : Nat} {s : ByteArray} (hx : x < d.fields.length) (hy : y < (d.fields.getD x default).words.length) (hr : Right d) (hX : Right (moreD d x y s)) : ∀ t, t ∈ pickW (d.fields.getD x default).words y s → validS t = true := by
  intro t ht
  have hg := hr.good _ (getD_mem hx)
  have hx2 : x < (moreD d x y s).fields.length := by rw [more_len]; exact hx
  have hG := hX.good _ (getD_mem hx2)
  rw [more_at hx] at hG
  rcases List.mem_or_eq_of_mem_set ht with ht | ht
  · obtain ⟨w, hw, rfl⟩ := List.mem_map.1 ht
    have h1 := wordE_0 (hg.each w hw)
    exact h1.2.2.1 _ (getD_mem (by omega))
  · subst ht
    have h2 : y < (moreF (d.fields.getD x default) y t).words.length := by simpa [moreF] using hy
    have h1 := wordE_0 (hG.at_ h2)
    refine h1.2.2.1 _ ?_
    rw [more_word hy, if_pos rfl]
    exact List.mem_append_right _ List.mem_cons_self
theorem more_made {d : Dc} {x y : Nat} {s : ByteArray} (hx : x < d.fields.length) (hy : y < (d.fields.getD x default).words.length) (hr : Right d) (hc : checkE (moreD d x y s) = 0) : possV (moreD d x y s) x (joinS (pickW (d.fields.getD x default).words y s) sp) = true := by
  rw [possV_iff (more_has hx hc), wordsF_join (more_valid hx hy hr (right_of hc)), pickW_len]
  have e : fieldAt (moreD d x y s) x = moreF (d.fields.getD x default) y s := more_at hx
  rw [e]
  refine ⟨by simp [moreF], fun j hj => ?_⟩
  rw [pickW_at hy hj, more_word hy]
  split
  · exact List.mem_append_right _ List.mem_cons_self
  · have h1 := wordE_0 ((hr.good _ (getD_mem hx)).at_ hj)
    exact getD_mem (by omega)
theorem mk_step {ps : List ByteArray} {k : Nat} (hk : k < ps.length) : (0 < k → joinS (ps.take k) sp ++ ⟨#[32]⟩ ++ ps.getD k default = joinS (ps.take (k + 1)) sp) ∧ (k = 0 → joinS (ps.take k) sp ++ ps.getD k default = joinS (ps.take (k + 1)) sp) := by
  have htl : (ps.take k).length = k := by rw [List.length_take]; omega
  refine ⟨fun h => ?_, fun h => ?_⟩
  · rw [take_getD hk, joinS_snoc (by intro e; rw [e] at htl; simp at htl; omega)]
  · subst h
    rw [take_getD hk]
    exact (joinS_one _).symm
theorem nameY_ok (s : ByteArray) (hs : s.size ≤ 9223372036854775807) (h : nameOk s = true) : GC Tryd.prog 32 [sG s] (bG true) := by have e := name_ok s hs; rw [h] at e; exact e
theorem possN_ok (d : Dc) (hd : Fit d) (n : Int) (t : ByteArray) (ht : t.size ≤ 1000000) (h : ¬ checkE d = 0) : GC Tryd.prog 25 [dcG d, iG n, sG t] (bG false) := by
  have e := possible_ok d hd n t ht
  have q : possV d n t = false := by rw [possV, if_neg (fun hb => h (hasB_at hb).1)]
  rw [q] at e
  exact e
theorem quo_bound {n : Int} (h0 : 0 ≤ n) (h1 : n ≤ 4096) {l : Nat} (a : 1 ≤ l) (b : l ≤ 4) : 0 ≤ n / (l : Int) ∧ n / (l : Int) ≤ 4096 ∧ 0 ≤ n / (l : Int) * ((l : Int) + 1) ∧ n / (l : Int) * ((l : Int) + 1) ≤ 20480 := by
  have c1 := Int.ediv_nonneg h0 (show (0 : Int) ≤ l by omega)
  have c2 := Int.le_trans (Int.ediv_le_self (l : Int) h0) h1
  generalize n / (l : Int) = q at *
  refine ⟨c1, c2, Int.mul_nonneg c1 (by omega), ?_⟩
  have := Int.mul_le_mul c2 (show (l : Int) + 1 ≤ 5 by omega) (by omega) (by omega)
  omega
theorem more_num {d : Dc} {x y : Nat} (s : ByteArray) (hx : x < d.fields.length) (hy : y < (d.fields.getD x default).words.length) (h1 : (countE d).2 = 0) (h2 : (countE (moreD d x y s)).2 = 0) : (countE (moreD d x y s)).1 = (countE d).1 / (((d.fields.getD x default).words.getD y default).length : Int) * ((((d.fields.getD x default).words.getD y default).length : Int) + 1) := by
  obtain ⟨hr, e1, _⟩ := countE_yes h1
  obtain ⟨_, e2, _⟩ := countE_yes h2
  rw [e1, e2, more_tot hr s hx hy, Int.natCast_mul, Int.natCast_ediv]
  rfl
theorem get_some {α : Type} [Inhabited α] {l : List α} {i : Nat} (h : i < l.length) : l[i]? = some (l.getD i default) := by rw [List.getD_eq_getElem?_getD, List.getElem?_eq_getElem h]; rfl
theorem moreW_hv (w0 z : List ByteArray) : ∀ j x, (wdC z)[j]? = some x → (j = 0 → x = rowSD z) ∧ (j ≠ 0 → (wdC w0)[j]? = some x) := by
  intro j x h
  cases j with
  | zero => exact ⟨fun _ => by simpa [wdC] using h.symm, fun q => absurd rfl q⟩
  | succ j => simp [wdC] at h
theorem moreF_hv (f : Fl) (y : Nat) (s : ByteArray) : ∀ j x, (flC (moreF f y s))[j]? = some x → (j = 1 → x = .row default wdC (f.words.set y (f.words.getD y default ++ [s]))) ∧ (j ≠ 1 → (flC f)[j]? = some x) := by
  intro j x h
  match j with
  | 0 => exact ⟨fun q => (by cases q), fun _ => h⟩
  | 1 => exact ⟨fun _ => by simpa [flC, moreF] using h.symm, fun q => absurd rfl q⟩
  | j + 2 => simp [flC] at h
theorem textsB_ok (d : Dc) (hd : Fit d) (x : Nat) (hc : checkE d = 0) (hx : x < d.fields.length) (h : 4096 < sz (d.fields.getD x default).words) : GC Tryd.prog 18 [dcG d, iG x] (.tup [rowS [], iG 6]) := by
  have e := texts_ok d hd x
  rw [textsE, if_pos hc, if_pos (hasB_of hc hx), if_pos (by exact h)] at e
  exact e
theorem flatB_set {α : Type} {cs : α → List D} {xs : List α} {es : Nat} (hl : ∀ e, e ∈ xs → (cs e).length = es) (m : Nat) {y j0 : Nat} {z e0 : α} {g : G} {v : D} (hy : xs[y]? = some e0) (hz : (cs z).length = es) (hj : j0 < es)
    (hv : ∀ j x, (cs z)[j]? = some x → (j = j0 → x = v) ∧ (j ≠ j0 → (cs e0)[j]? = some x)) : ∀ (i : Nat) e (j : Nat) x, (xs.set y z)[i]? = some e → (cs e)[j]? = some x → (((flatB cs xs m).set (y * es + j0) g).set (y * es + j0) (.d v))[i * es + j]? = some (.d x) := by
  intro i e j x h1 h2
  have hlen := flatB_len hl m
  have hyl := (List.getElem?_eq_some_iff.1 hy).1
  have hlt : y * es + j0 < (flatB cs xs m).length := by rw [hlen]; have := blk_idx hyl hj; omega
  rw [List.set_set, List.getElem?_set]
  rw [List.getElem?_set] at h1
  have hjl : j < es := by
    have hj := (List.getElem?_eq_some_iff.1 h2).1
    by_cases q : y = i
    · rw [if_pos q, if_pos hyl] at h1; cases h1; rw [hz] at hj; exact hj
    · rw [if_neg q] at h1; rw [hl e (List.mem_of_getElem? h1)] at hj; exact hj
  by_cases q : y = i
  · subst q
    rw [if_pos rfl, if_pos hyl] at h1
    cases h1
    obtain ⟨v1, v2⟩ := hv j x h2
    by_cases qj : j = j0
    · subst qj
      rw [if_pos rfl, if_pos hlt, v1 rfl]
    · rw [if_neg (by omega)]
      exact flatB_get hl m hy (v2 qj)
  · rw [if_neg q] at h1
    have hne : y * es + j0 ≠ i * es + j := by
      intro e1
      rcases Nat.lt_or_gt_of_ne q with q | q
      · have := blk_idx (es := es) q hj; omega
      · have := blk_idx (es := es) q hjl; omega
    rw [if_neg hne]
    exact flatB_get hl m h1 h2

theorem more_ok (d : Dc) (a1 a2 : Int) (s t : ByteArray) : GC Tryd.prog 7 [dcG d, iG a1, iG a2, sG s, sG t] (bG true) := by
  refine gc_of_gk Tryd.func7 ?_
  refine gk_region env false [] [1, 2, 3, 4, 5, 10] ?_ (hp := (by simp only [AllP, bb, toN]; repeat' first | exact trivial | exact EntL.refl _ | exact rfl | omega | apply And.intro | intro _)) -- 0
  refine gk_region env false [.call sane_ok] [1, 2, 3, 4, 5, 10, 11] ?_ (hp := (by simp only [AllP, bb, toN]; repeat' first | exact trivial | exact EntL.refl _ | exact rfl | omega | apply And.intro | intro _)) -- 1
  cases hw : fewD d
  · refine gk_region env false [.call (fewN_ok d hw), .no, .nu] [1, 2, 3, 4, 5, 10, 11, 43] ?_ (hp := (by simp only [AllP, bb, toN]; repeat' first | exact trivial | exact EntL.refl _ | exact rfl | omega | apply And.intro | intro _)) -- 2
    refine gk_if (fun c1 => ?_) (fun c1 => ?_)
    · try simp only [bb, toN] at c1
      refine gk_region env false [] [1, 2, 3, 4, 5, 10, 11] ?_ (hp := (by simp only [AllP, bb, toN]; repeat' first | exact trivial | exact EntL.refl _ | exact rfl | omega | apply And.intro | intro _)) -- 3
      refine gk_ret env ?_
      simp [tupG]
    · try simp only [bb, toN] at c1
      exact absurd c1 (by simp)
  · have hd := few_fit hw
    have hd2 := hd.fields
    refine gk_region env false [.call (fewY_ok d hw), .call (check_ok d hd)] [1, 2, 3, 4, 5, 10, 11, 43] ?_ (hp := (by simp only [AllP, bb, toN]; repeat' first | exact trivial | exact EntL.refl _ | exact rfl | omega | apply And.intro | intro _)) -- 2
    refine gk_if (fun c1 => ?_) (fun c1 => ?_)
    · try simp only [bb, toN] at c1
      refine gk_region env false [] [1, 2, 3, 4, 5, 10, 11] ?_ (hp := (by simp only [AllP, bb, toN]; repeat' first | exact trivial | exact EntL.refl _ | exact rfl | omega | apply And.intro | intro _)) -- 3
      refine gk_ret env ?_
      simp [tupG]
    · try simp only [bb, toN] at c1
      have hc0 : checkE d = 0 := by simpa using c1.1.1.2
      have hr := right_of hc0
      have hl12 := hr.len
      refine gk_region env false [] [1, 2, 3, 4, 5, 10, 11, 12] ?_ (hp := (by simp only [AllP, bb, toN]; repeat' first | exact trivial | exact EntL.refl _ | exact rfl | omega | apply And.intro | intro _)) -- 4
      refine gk_loop (α := Nat) (fun i => i ≤ d.fields.length) (fun i => [(12, iG i)]) (fun _ => []) (fun i => d.fields.length - i) 0 (Nat.zero_le _) ?_ -- loop 5
      rintro i hi
      refine gk_region env false [] [1, 2, 3, 4, 5, 10, 11, 12, 49] ?_ (hp := (by simp only [AllP, bb, toN]; repeat' first | exact trivial | exact EntL.refl _ | exact rfl | omega | apply And.intro | intro _)) -- 5
      refine gk_ifd (fun c2 => ?_) (fun c2 => ?_)
      · try simp only [toN] at c2
        refine gk_region env false [.call (nameY_ok (d.fields.getD i default).name (by have := (hd.at_ (show i < d.fields.length by omega)).name; omega) (hr.name _ (getD_mem (by omega))))] [1, 2, 3, 4, 5, 10, 11, 12, 59] ?_ (hp := (by simp only [AllP, bb, toN]; repeat' first | exact trivial | exact EntL.refl _ | exact rfl | omega | apply And.intro | intro _)) -- 7
        refine gk_if (fun c3 => ?_) (fun c3 => ?_)
        · try simp only [bb, toN] at c3
          exact absurd c3 (by simp)
        · try simp only [bb, toN] at c3
          refine gk_region env false [] [1, 2, 3, 4, 5, 10, 11, 12] ?_ (hp := (by simp only [AllP, bb, toN]; repeat' first | exact trivial | exact EntL.refl _ | exact rfl | omega | apply And.intro | intro _)) -- 6
          refine gk_round (i + 1) ?_
          omega
      · try simp only [toN] at c2
        refine gk_region env false [.call (nameY_ok d.kind (by have := hd.kind; omega) hr.kind)] [1, 2, 3, 4, 5, 10, 11, 89] ?_ (hp := (by simp only [AllP, bb, toN]; repeat' first | exact trivial | exact EntL.refl _ | exact rfl | omega | apply And.intro | intro _)) -- 9
        refine gk_if (fun c4 => ?_) (fun c4 => ?_)
        · try simp only [bb, toN] at c4
          refine gk_region env false [.call (nameY_ok d.kind (by have := hd.kind; omega) hr.kind)] [1, 2, 3, 4, 5, 10, 11] ?_ (hp := (by simp only [AllP, bb, toN]; repeat' first | exact trivial | exact EntL.refl _ | exact rfl | omega | apply And.intro | intro _)) -- 10
          refine gk_ret env ?_
          simp [tupG]
        · try simp only [bb, toN] at c4
          obtain ⟨x, rfl⟩ : ∃ x : Nat, a1 = x := ⟨a1.toNat, by omega⟩
          obtain ⟨y, rfl⟩ : ∃ y : Nat, a2 = y := ⟨a2.toNat, by omega⟩
          have hx : x < d.fields.length := by omega
          have hy : y < (d.fields.getD x default).words.length := by have := c4.2; simp only [Int.toNat_natCast] at this; omega
          have hf := hd.at_ hx
          have hg := hr.good _ (getD_mem hx)
          have hg8 := hg.words
          have hwy := hf.at_ hy
          have hw4 := wordE_0 (hg.at_ hy)
          have hXf := more_fit hd hr hx hy (s := s) (by omega)
          refine gk_region env false [.el (default : Fl) flC [], .el default flC d.fields] [1, 2, 3, 4, 5, 10, 11, 13] ?_ (hp := (by simp only [AllP, obP, bb, toN, Int.toNat_natCast]; repeat' first | exact trivial | exact EntL.refl _ | exact BEntL.refl _ | exact rfl | omega | apply And.intro | intro _ | (simp [rowL]; done) | (simp only [List.length_append, List.length_cons, List.length_nil]; omega))) -- 11
          refine gk_rowbox 2 (es := 2) (df := (default : Fl)) (cs := flC) (xs := d.fields) (fun m => ?_) (by intro e; rw [e] at hx; exact Nat.not_lt_zero _ hx)
          have hp2 : ((0 + x) * 2 + 1) < (flatB flC d.fields m).length := by rw [flatB_len (es := 2) (fun _ _ => rfl)]; omega
          have hx0 := get_some hx
          have hg2 : ((flatB flC d.fields m).set ((0 + x) * 2 + 1) (.sl 5 1 0 (0 + (d.fields.getD x default).words.length)))[((0 + x) * 2 + 1)]? = some (.sl 5 1 0 (0 + (d.fields.getD x default).words.length)) := List.getElem?_set_self hp2
          refine gk_region env false [.el (default : List ByteArray) wdC [], .el default wdC (d.fields.getD x default).words, .bs] [1, 2, 3, 4, 5, 10, 11, 13] ?_ (hp := (by simp only [AllP, obP, bb, toN, Int.toNat_natCast]; repeat' first | exact trivial | exact EntL.refl _ | exact BEntL.refl _ | exact rfl | omega | apply And.intro | intro _ | (simp [rowL]; done) | (simp only [List.length_append, List.length_cons, List.length_nil]; omega) | exact hp2 | exact hp1 | exact hg2)) -- 12
          refine gk_rowbox 5 (es := 1) (df := (default : List ByteArray)) (cs := wdC) (xs := (d.fields.getD x default).words) (fun m2 => ?_) (by intro e; rw [e] at hy; exact Nat.not_lt_zero _ hy)
          have hp1 : ((0 + y) * 1 + 0) < (flatB wdC (d.fields.getD x default).words m2).length := by rw [flatB_len (es := 1) (fun _ _ => rfl)]; omega
          have hy0 := get_some hy
          refine gk_region env false [] [1, 2, 3, 4, 5, 10, 11, 13, 14] ?_ (hp := (by simp only [AllP, bb, toN]; repeat' first | exact trivial | exact EntL.refl _ | exact rfl | omega | apply And.intro | intro _)) -- 13
          refine gk_region env false [.bx (.sl 2 2 0 (0 + d.fields.length)), .bx (.sl 5 1 0 (0 + (d.fields.getD x default).words.length)), .el (default : ByteArray) strC [], .el default strC ((d.fields.getD x default).words.getD y default), .el default strC [s], .el default strC (((d.fields.getD x default).words.getD y default) ++ [s]), .bs] [1, 2, 3, 4, 5, 10, 11, 13, 14] ?_ (hp := (by simp only [AllP, obP, bb, toN, Int.toNat_natCast]; repeat' first | exact trivial | exact EntL.refl _ | exact BEntL.refl _ | exact rfl | omega | apply And.intro | intro _ | (simp [rowL]; done) | (simp only [List.length_append, List.length_cons, List.length_nil]; omega) | exact hp2 | exact hp1 | exact hg2)) -- 14
          refine gk_cellrow 9 5 ((0 + y) * 1 + 0) (es := 1) (xs := (((d.fields.getD x default).words.getD y default) ++ [s])) (gs := (flatB wdC (d.fields.getD x default).words m2).set ((0 + y) * 1 + 0) (.sl 9 1 0 (((d.fields.getD x default).words.getD y default).length + 1))) ?_ (by rw [List.getElem?_set_self hp1]; simp)
          refine gk_cellbox 5 2 ((0 + x) * 2 + 1) (es := 1) (default : List ByteArray) wdC ((d.fields.getD x default).words.set y (((d.fields.getD x default).words.getD y default) ++ [s])) (gs := (flatB flC d.fields m).set ((0 + x) * 2 + 1) (.sl 5 1 0 (0 + (d.fields.getD x default).words.length))) (gb := ((flatB wdC (d.fields.getD x default).words m2).set ((0 + y) * 1 + 0) (.sl 9 1 0 (((d.fields.getD x default).words.getD y default).length + 1))).set ((0 + y) * 1 + 0) (.d (.row default strC (((d.fields.getD x default).words.getD y default) ++ [s])))) ?_ (by rw [List.getElem?_set_self hp2]; simp) (fun _ _ => rfl) (by simp only [List.length_set]; rw [flatB_len (es := 1) (fun _ _ => rfl)]; omega) (by simp only [Nat.zero_add]; exact flatB_set (es := 1) (fun _ _ => rfl) m2 hy0 rfl (by omega) (moreW_hv _ _))
          refine gk_cellbox 2 3 1 (es := 2) (default : Fl) flC (d.fields.set x (moreF (d.fields.getD x default) y s)) (gs := [sG d.kind, .sl 2 2 0 (0 + d.fields.length)]) (gb := ((flatB flC d.fields m).set ((0 + x) * 2 + 1) (.sl 5 1 0 (0 + (d.fields.getD x default).words.length))).set ((0 + x) * 2 + 1) (.d (.row default wdC ((d.fields.getD x default).words.set y (((d.fields.getD x default).words.getD y default) ++ [s]))))) ?_ (by simp) (fun _ _ => rfl) (by simp only [List.length_set]; rw [flatB_len (es := 2) (fun _ _ => rfl)]; omega) (by simp only [Nat.zero_add]; exact flatB_set (es := 2) (fun _ _ => rfl) m hx0 rfl (by omega) (moreF_hv _ _ _))
          refine gk_region env false [.call (check_ok (moreD d x y s) hXf)] [1, 2, 3, 4, 5, 10, 11, 13, 14, 143] ?_ (hp := (by simp only [AllP, bb, toN]; repeat' first | exact trivial | exact EntL.refl _ | exact rfl | omega | apply And.intro | intro _)) -- 15
          refine gk_ifn (fun c5 => ?_) (fun c5 => ?_)
          · try simp only [toN] at c5
            refine gk_region env false [.call (possN_ok (moreD d x y s) hXf x t (by omega) c5)] [1, 2, 3, 4, 5, 10, 11, 13, 14] ?_ (hp := (by simp only [AllP, bb, toN]; repeat' first | exact trivial | exact EntL.refl _ | exact rfl | omega | apply And.intro | intro _)) -- 16
            refine gk_ret env ?_
            simp [tupG]
          · try simp only [toN] at c5
            have hcX : checkE (moreD d x y s) = 0 := by simpa using c5
            have hXr := right_of hcX
            refine gk_region env false [.call (possible_ok d hd x t (by omega)), .call (possible_ok (moreD d x y s) hXf x t (by omega))] [1, 2, 3, 5, 10, 11, 13, 14, 162] ?_ (hp := (by simp only [AllP, bb, toN]; repeat' first | exact trivial | exact EntL.refl _ | exact rfl | omega | apply And.intro | intro _)) -- 17
            refine gk_if (fun c6 => ?_) (fun c6 => ?_)
            · try simp only [bb, toN] at c6
              have := more_poss hc0 hx hy hcX c6.1
              rw [this] at c6
              exact absurd c6.2 (by simp)
            · try simp only [bb, toN] at c6
              have hbd := countE_bound d
              have hbX := countE_bound (moreD d x y s)
              refine gk_region env false [.call (count_ok d hd)] [1, 2, 3, 5, 10, 11, 13, 14, 15, 16] ?_ (hp := (by simp only [AllP, bb, toN]; repeat' first | exact trivial | exact EntL.refl _ | exact rfl | omega | apply And.intro | intro _)) -- 19
              refine gk_region env false [.call (count_ok (moreD d x y s) hXf)] [1, 2, 3, 5, 10, 11, 13, 14, 15, 16, 17, 18] ?_ (hp := (by simp only [AllP, bb, toN]; repeat' first | exact trivial | exact EntL.refl _ | exact rfl | omega | apply And.intro | intro _)) -- 20
              have hq := quo_bound hbd.1 hbd.2 (l := ((d.fields.getD x default).words.getD y default).length) (by omega) (by omega)
              refine gk_region env false [] [1, 2, 3, 5, 10, 11, 13, 190] ?_ (hp := (by simp only [AllP, bb, toN]; repeat' first | exact trivial | exact EntL.refl _ | exact rfl | omega | apply And.intro | intro _)) -- 21
              refine gk_if (fun c7 => ?_) (fun c7 => ?_)
              · try simp only [bb, toN] at c7
                exact absurd (more_num s hx hy c7.1.1 c7.1.2) c7.2
              · try simp only [bb, toN] at c7
                by_cases hbig : 4096 < sz (d.fields.getD x default).words
                · refine gk_region env false [.call (textsB_ok d hd x hc0 hx hbig)] [1, 2, 3, 5, 10, 11, 13, 19, 20] ?_ (hp := (by simp only [AllP, bb, toN]; repeat' first | exact trivial | exact EntL.refl _ | exact rfl | omega | apply And.intro | intro _)) -- 23
                  refine gk_region env false [] [1, 2, 3, 5, 10, 11, 13, 19, 20, 198] ?_ (hp := (by simp only [AllP, bb, toN]; repeat' first | exact trivial | exact EntL.refl _ | exact rfl | omega | apply And.intro | intro _)) -- 24
                  refine gk_ifn (fun c8 => ?_) (fun c8 => ?_)
                  · try simp only [toN] at c8
                    refine gk_region env false [] [1, 2, 3, 5, 10, 11, 13, 19] ?_ (hp := (by simp only [AllP, bb, toN]; repeat' first | exact trivial | exact EntL.refl _ | exact rfl | omega | apply And.intro | intro _)) -- 25
                    refine gk_ret env ?_
                    simp [tupG]
                  · try simp only [toN] at c8
                    exact absurd c8 (by simp)
                · refine gk_region env false [.call (textsY_ok d hd x (hasB_of hc0 hx) (by omega))] [1, 2, 3, 5, 10, 11, 13, 19, 20] ?_ (hp := (by simp only [AllP, bb, toN]; repeat' first | exact trivial | exact EntL.refl _ | exact rfl | omega | apply And.intro | intro _)) -- 23
                  refine gk_region env false [] [1, 2, 3, 5, 10, 11, 13, 19, 20, 198] ?_ (hp := (by simp only [AllP, bb, toN]; repeat' first | exact trivial | exact EntL.refl _ | exact rfl | omega | apply And.intro | intro _)) -- 24
                  refine gk_ifn (fun c8 => ?_) (fun c8 => ?_)
                  · try simp only [toN] at c8
                    exact absurd trivial c8
                  · try simp only [toN] at c8
                    refine gk_region env false [] [1, 2, 3, 5, 10, 11, 13, 19, 21] ?_ (hp := (by simp only [AllP, bb, toN]; repeat' first | exact trivial | exact EntL.refl _ | exact rfl | omega | apply And.intro | intro _)) -- 26
                    refine gk_region env false [] [1, 2, 3, 10, 11, 13, 19, 21, 22] ?_ (hp := (by simp only [AllP, bb, toN]; repeat' first | exact trivial | exact EntL.refl _ | exact rfl | omega | apply And.intro | intro _)) -- 27
                    refine gk_region env false [] [1, 2, 3, 10, 11, 13, 19, 21, 22, 23] ?_ (hp := (by simp only [AllP, bb, toN]; repeat' first | exact trivial | exact EntL.refl _ | exact rfl | omega | apply And.intro | intro _)) -- 28
                    refine gk_loop (α := Nat) (fun k => k ≤ (d.fields.getD x default).words.length) (fun k => [(23, iG k), (21, sG (joinS ((pickW (d.fields.getD x default).words y s).take k) sp))]) (fun _ => []) (fun k => (d.fields.getD x default).words.length - k) 0 (Nat.zero_le _) ?_ (hp := by simp [AllP]; rfl) -- loop 29
                    rintro k hk
                    refine gk_region env false [] [1, 2, 3, 10, 11, 13, 19, 21, 22, 23, 213] ?_ (hp := (by simp only [AllP, bb, toN]; repeat' first | exact trivial | exact EntL.refl _ | exact rfl | omega | apply And.intro | intro _)) -- 29
                    refine gk_ifd (fun c9 => ?_) (fun c9 => ?_)
                    · try simp only [toN] at c9
                      have hk1 : k < (d.fields.getD x default).words.length := by omega
                      have hwk := (wordE_0 (hg.at_ hk1)).1
                      have hjs := joinS_size (xs := (pickW (d.fields.getD x default).words y s).take k) fun z hz => validS_size (more_valid hx hy hr hXr z (List.mem_of_mem_take hz))
                      have hjl : ((pickW (d.fields.getD x default).words y s).take k).length ≤ 8 := by rw [List.length_take, pickW_len]; omega
                      have hsp1 : (ByteArray.mk #[32]).size = 1 := rfl
                      have hm := mk_step (ps := (pickW (d.fields.getD x default).words y s)) (k := k) (by rw [pickW_len]; exact hk1)
                      have hw0 := (hf.at_ hk1).2 (((d.fields.getD x default).words.getD k default).getD 0 default) (getD_mem (by omega))
                      refine gk_region env false [] [1, 2, 3, 10, 11, 13, 19, 21, 22, 23, 24] ?_ (hp := (by simp only [AllP, bb, toN]; repeat' first | exact trivial | exact EntL.refl _ | exact rfl | omega | apply And.intro | intro _)) -- 31
                      refine gk_region env false [] [1, 2, 3, 10, 11, 13, 19, 21, 22, 23, 24, 225] ?_ (hp := (by simp only [AllP, bb, toN]; repeat' first | exact trivial | exact EntL.refl _ | exact rfl | omega | apply And.intro | intro _)) -- 32
                      refine gk_ifd (fun c10 => ?_) (fun c10 => ?_)
                      · try simp only [toN] at c10
                        refine gk_region env false [] [1, 2, 3, 10, 11, 13, 19, 21, 22, 23, 24] ?_ (hp := (by simp only [AllP, bb, toN]; repeat' first | exact trivial | exact EntL.refl _ | exact rfl | omega | apply And.intro | intro _)) -- 33
                        have hv : (pickW (d.fields.getD x default).words y s).getD k default = s := by rw [pickW_at hy hk1, if_pos (by omega)]
                        rw [hv] at hm
                        refine gk_region env false [] [1, 2, 3, 10, 11, 13, 19, 21, 22, 23, 24, 228] ?_ (hp := (by simp only [AllP, bb, toN]; repeat' first | exact trivial | exact EntL.refl _ | exact rfl | omega | apply And.intro | intro _)) -- 34
                        refine gk_ifd (fun c11 => ?_) (fun c11 => ?_)
                        · try simp only [toN] at c11
                          refine gk_region env false [] [1, 2, 3, 10, 11, 13, 19, 21, 22, 23, 24] ?_ (hp := (by simp only [AllP, bb, toN, ByteArray.size_append, hsp1]; repeat' first | exact trivial | exact EntL.refl _ | exact rfl | omega | apply And.intro | intro _)) -- 35
                          refine gk_region env false [] [1, 2, 3, 10, 11, 13, 19, 21, 22, 23] ?_ (hp := (by simp only [AllP, bb, toN, ByteArray.size_append, hsp1]; repeat' first | exact trivial | exact EntL.refl _ | exact rfl | omega | apply And.intro | intro _)) -- 36
                          refine gk_region env false [] [1, 2, 3, 10, 11, 13, 19, 21, 22, 23] ?_ (hp := (by simp only [AllP, bb, toN]; repeat' first | exact trivial | exact EntL.refl _ | exact rfl | omega | apply And.intro | intro _)) -- 30
                          refine gk_round (k + 1) ?_ (hp := by rw [← hm.1 (by omega)]; simp only [AllP, bb, toN]; repeat' first | exact trivial | exact EntL.refl _ | exact rfl | omega | apply And.intro | intro _)
                          omega
                        · try simp only [toN] at c11
                          refine gk_region env false [] [1, 2, 3, 10, 11, 13, 19, 21, 22, 23] ?_ (hp := (by simp only [AllP, bb, toN, ByteArray.size_append, hsp1]; repeat' first | exact trivial | exact EntL.refl _ | exact rfl | omega | apply And.intro | intro _)) -- 36
                          refine gk_region env false [] [1, 2, 3, 10, 11, 13, 19, 21, 22, 23] ?_ (hp := (by simp only [AllP, bb, toN]; repeat' first | exact trivial | exact EntL.refl _ | exact rfl | omega | apply And.intro | intro _)) -- 30
                          refine gk_round (k + 1) ?_ (hp := by rw [← hm.2 (by omega)]; simp only [AllP, bb, toN]; repeat' first | exact trivial | exact EntL.refl _ | exact rfl | omega | apply And.intro | intro _)
                          omega
                      · try simp only [toN] at c10
                        have hv : (pickW (d.fields.getD x default).words y s).getD k default = ((d.fields.getD x default).words.getD k default).getD 0 default := by rw [pickW_at hy hk1, if_neg (by omega)]
                        rw [hv] at hm
                        refine gk_region env false [] [1, 2, 3, 10, 11, 13, 19, 21, 22, 23, 24, 228] ?_ (hp := (by simp only [AllP, bb, toN]; repeat' first | exact trivial | exact EntL.refl _ | exact rfl | omega | apply And.intro | intro _)) -- 34
                        refine gk_ifd (fun c12 => ?_) (fun c12 => ?_)
                        · try simp only [toN] at c12
                          refine gk_region env false [] [1, 2, 3, 10, 11, 13, 19, 21, 22, 23, 24] ?_ (hp := (by simp only [AllP, bb, toN, ByteArray.size_append, hsp1]; repeat' first | exact trivial | exact EntL.refl _ | exact rfl | omega | apply And.intro | intro _)) -- 35
                          refine gk_region env false [] [1, 2, 3, 10, 11, 13, 19, 21, 22, 23] ?_ (hp := (by simp only [AllP, bb, toN, ByteArray.size_append, hsp1]; repeat' first | exact trivial | exact EntL.refl _ | exact rfl | omega | apply And.intro | intro _)) -- 36
                          refine gk_region env false [] [1, 2, 3, 10, 11, 13, 19, 21, 22, 23] ?_ (hp := (by simp only [AllP, bb, toN]; repeat' first | exact trivial | exact EntL.refl _ | exact rfl | omega | apply And.intro | intro _)) -- 30
                          refine gk_round (k + 1) ?_ (hp := by rw [← hm.1 (by omega)]; simp only [AllP, bb, toN]; repeat' first | exact trivial | exact EntL.refl _ | exact rfl | omega | apply And.intro | intro _)
                          omega
                        · try simp only [toN] at c12
                          refine gk_region env false [] [1, 2, 3, 10, 11, 13, 19, 21, 22, 23] ?_ (hp := (by simp only [AllP, bb, toN, ByteArray.size_append, hsp1]; repeat' first | exact trivial | exact EntL.refl _ | exact rfl | omega | apply And.intro | intro _)) -- 36
                          refine gk_region env false [] [1, 2, 3, 10, 11, 13, 19, 21, 22, 23] ?_ (hp := (by simp only [AllP, bb, toN]; repeat' first | exact trivial | exact EntL.refl _ | exact rfl | omega | apply And.intro | intro _)) -- 30
                          refine gk_round (k + 1) ?_ (hp := by rw [← hm.2 (by omega)]; simp only [AllP, bb, toN]; repeat' first | exact trivial | exact EntL.refl _ | exact rfl | omega | apply And.intro | intro _)
                          omega
                    · try simp only [toN] at c9
                      have hkl : k = (d.fields.getD x default).words.length := by omega
                      subst hkl
                      have htk2 : (pickW (d.fields.getD x default).words y s).take (d.fields.getD x default).words.length = (pickW (d.fields.getD x default).words y s) := List.take_of_length_le (by rw [pickW_len]; exact Nat.le_refl _)
                      rw [htk2]
                      have htl := textsL_length (d.fields.getD x default)
                      have hsz := hg.sz.1
                      have htl1 : (textsL (d.fields.getD x default)).length - 1 < sz (d.fields.getD x default).words := by omega
                      have htn : (((textsL (d.fields.getD x default)).length : Int) - 1).toNat = (textsL (d.fields.getD x default)).length - 1 := by omega
                      refine gk_region env false [.call (possY_ok (moreD d x y s) hXf x (joinS (pickW (d.fields.getD x default).words y s) sp) (by have := joinS_size (xs := (pickW (d.fields.getD x default).words y s)) fun z hz => validS_size (more_valid hx hy hr hXr z hz); rw [pickW_len] at this; omega) (more_made hx hy hr hcX)), .call (possY_ok (moreD d x y s) hXf x ((textsL (d.fields.getD x default)).getD ((textsL (d.fields.getD x default)).length - 1) default) (by rw [textsL_getD htl1]; have := textF_size hg ((textsL (d.fields.getD x default)).length - 1); omega) (by rw [textsL_getD htl1]; exact more_poss hc0 hx hy hcX (poss_text (hasB_of hc0 hx) _)))] [10] ?_ (hp := (by simp only [AllP, bb, toN, htn]; repeat' first | exact trivial | exact EntL.refl _ | exact rfl | omega | apply And.intro | intro _)) -- 37
                      refine gk_ret env ?_
                      have hp0 : (0 : Int) < ((textsL (d.fields.getD x default)).length : Int) := by omega
                      rw [decide_eq_true hp0]
                      rfl
end Go.Gh
