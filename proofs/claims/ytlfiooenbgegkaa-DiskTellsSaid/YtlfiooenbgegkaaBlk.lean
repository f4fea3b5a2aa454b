/- Words for memory: a block known whole; a slice that reads as a list, cell by cell; a slice of strings made and filled. -/
import Derived.Test.YtlfiooenbgegkaaOwn
import Derived.Test.YtlfiooenbgegkaaWords
import Derived.Laws.CopyOwn
namespace Go.Proofs.Ytlfiooenbgegkaa
open Go.RowKit
set_option linter.unusedVariables false

section
variable {w w' : World} {g B : Nat} {cs : Array Value} {t : TypeId} {fr : Nat × Nat}
theorem blk_lt {o : Obj} (h : w.heap[g]? = some o) : g < w.heap.size := (Array.getElem?_eq_some_iff.1 h).1
theorem blk_cell (h : w.heap[g]? = some (.cells cs t fr)) {j : Nat} {u : Value} (hj : cs[j]? = some u) : w.cell? ⟨g, j, none⟩ = some u := by
  simp only [World.cell?, h]; simpa using hj
theorem blk_frozen (h : w.heap[g]? = some (.cells cs t (0, 0))) (j : Nat) : w.frozen? ⟨g, j, none⟩ = false := frozen_of_row w g j cs t h
theorem blk_below {o : Obj} (h : w.heap[g]? = some o) (hb : Below B w w') (hB : g < B) : w'.heap[g]? = some o := (hb.block g hB).trans h
theorem blk_call {o : Obj} (h : w.heap[g]? = some o) (hb : Below w.heap.size w w') : w'.heap[g]? = some o := blk_below h hb (blk_lt h)
theorem blk_old {o o' : Obj} (h : w.heap[g]? = some o) : (w.alloc o').heap[g]? = some o := (Below.heap_alloc w _ g (blk_lt h)).trans h
theorem blk_new (w : World) (o : Obj) : (w.alloc o).heap[w.heap.size]? = some o := heap_alloc_new w o
theorem blk_drewN {o : Obj} (n : Nat) (h : w.heap[g]? = some o) : (w.drewN n).heap[g]? = some o := h
theorem blk_other {o : Obj} {p : Addr} {u : Value} (h : w.heap[g]? = some o) (hp : g ≠ p.block) : (w.setCell p u).heap[g]? = some o := by
  rw [Below.heap_setCell _ _ _ _ hp]; exact h
theorem blk_set {j : Nat} {u : Value} (h : w.heap[g]? = some (.cells cs t (0, 0))) : (w.setCell ⟨g, j, none⟩ u).heap[g]? = some (.cells (cs.setIfInBounds j u) t (0, 0)) := heap_setCell_same w g j cs t u h
theorem blk4 {x0 x1 x2 x3 : Value} (h : w.heap[g]? = some (.cells #[x0, x1, x2, x3] t (0, 0))) :
    (w.cell? ⟨g, 0, none⟩ = some x0 ∧ w.cell? ⟨g, 1, none⟩ = some x1 ∧ w.cell? ⟨g, 2, none⟩ = some x2 ∧ w.cell? ⟨g, 3, none⟩ = some x3) ∧
    (w.frozen? ⟨g, 0, none⟩ = false ∧ w.frozen? ⟨g, 1, none⟩ = false ∧ w.frozen? ⟨g, 2, none⟩ = false ∧ w.frozen? ⟨g, 3, none⟩ = false) :=
  ⟨⟨blk_cell h rfl, blk_cell h rfl, blk_cell h rfl, blk_cell h rfl⟩, blk_frozen h 0, blk_frozen h 1, blk_frozen h 2, blk_frozen h 3⟩
theorem blk2 {x0 x1 : Value} (h : w.heap[g]? = some (.cells #[x0, x1] t (0, 0))) :
    (w.cell? ⟨g, 0, none⟩ = some x0 ∧ w.cell? ⟨g, 1, none⟩ = some x1) ∧ (w.frozen? ⟨g, 0, none⟩ = false ∧ w.frozen? ⟨g, 1, none⟩ = false) :=
  ⟨⟨blk_cell h rfl, blk_cell h rfl⟩, blk_frozen h 0, blk_frozen h 1⟩
theorem blk1 {x0 : Value} (h : w.heap[g]? = some (.cells #[x0] t (0, 0))) : w.cell? ⟨g, 0, none⟩ = some x0 ∧ w.frozen? ⟨g, 0, none⟩ = false := ⟨blk_cell h rfl, blk_frozen h 0⟩
theorem set4 {x0 x1 x2 x3 y0 y1 y2 y3 : Value} (h : w.heap[g]? = some (.cells #[x0, x1, x2, x3] t (0, 0))) :
    ((((w.setCell ⟨g, 0, none⟩ y0).setCell ⟨g, 1, none⟩ y1).setCell ⟨g, 2, none⟩ y2).setCell ⟨g, 3, none⟩ y3).heap[g]? = some (.cells #[y0, y1, y2, y3] t (0, 0)) :=
  blk_set (blk_set (blk_set (blk_set h)))
end

theorem boxes1 {w w1 : World} {o1 : Obj} {B : Nat} (b : Below B (w.alloc o1) w1) (hB : B = w.heap.size + 1) : (w1.heap[w.heap.size]? = some o1) ∧ Below w.heap.size w w1 ∧ w.heap.size + 1 ≤ w1.heap.size := by
  subst hB
  have hs : w.heap.size + 1 ≤ w1.heap.size := by have := b.size; simpa using this
  have k1 : (w.alloc o1).heap[w.heap.size]? = some o1 := by
    have h := blk_new w o1
    try simp only [World.size_alloc] at h
    exact h
  exact ⟨blk_below k1 b (by omega), ((Below.refl _ _).alloc (by first | exact Nat.le_refl _ | (simp only [World.size_alloc]; omega)) _).trans (b.mono (by omega)), hs⟩
theorem boxes2 {w w1 : World} {o1 o2 : Obj} {B : Nat} (b : Below B ((w.alloc o1).alloc o2) w1) (hB : B = w.heap.size + 1 + 1) : (w1.heap[w.heap.size]? = some o1 ∧ w1.heap[w.heap.size + 1]? = some o2) ∧ Below w.heap.size w w1 ∧ w.heap.size + 1 + 1 ≤ w1.heap.size := by
  subst hB
  have hs : w.heap.size + 1 + 1 ≤ w1.heap.size := by have := b.size; simpa using this
  have k1 : ((w.alloc o1).alloc o2).heap[w.heap.size]? = some o1 := by
    have h := blk_new w o1
    try simp only [World.size_alloc] at h
    exact blk_old (h)
  have k2 : ((w.alloc o1).alloc o2).heap[w.heap.size + 1]? = some o2 := by
    have h := blk_new (w.alloc o1) o2
    try simp only [World.size_alloc] at h
    exact h
  exact ⟨⟨blk_below k1 b (by omega), blk_below k2 b (by omega)⟩, (((Below.refl _ _).alloc (by first | exact Nat.le_refl _ | (simp only [World.size_alloc]; omega)) _).alloc (by first | exact Nat.le_refl _ | (simp only [World.size_alloc]; omega)) _).trans (b.mono (by omega)), hs⟩
theorem boxes3 {w w1 : World} {o1 o2 o3 : Obj} {B : Nat} (b : Below B (((w.alloc o1).alloc o2).alloc o3) w1) (hB : B = w.heap.size + 1 + 1 + 1) : (w1.heap[w.heap.size]? = some o1 ∧ w1.heap[w.heap.size + 1]? = some o2 ∧ w1.heap[w.heap.size + 1 + 1]? = some o3) ∧ Below w.heap.size w w1 ∧ w.heap.size + 1 + 1 + 1 ≤ w1.heap.size := by
  subst hB
  have hs : w.heap.size + 1 + 1 + 1 ≤ w1.heap.size := by have := b.size; simpa using this
  have k1 : (((w.alloc o1).alloc o2).alloc o3).heap[w.heap.size]? = some o1 := by
    have h := blk_new w o1
    try simp only [World.size_alloc] at h
    exact blk_old (blk_old (h))
  have k2 : (((w.alloc o1).alloc o2).alloc o3).heap[w.heap.size + 1]? = some o2 := by
    have h := blk_new (w.alloc o1) o2
    try simp only [World.size_alloc] at h
    exact blk_old (h)
  have k3 : (((w.alloc o1).alloc o2).alloc o3).heap[w.heap.size + 1 + 1]? = some o3 := by
    have h := blk_new ((w.alloc o1).alloc o2) o3
    try simp only [World.size_alloc] at h
    exact h
  exact ⟨⟨blk_below k1 b (by omega), blk_below k2 b (by omega), blk_below k3 b (by omega)⟩, ((((Below.refl _ _).alloc (by first | exact Nat.le_refl _ | (simp only [World.size_alloc]; omega)) _).alloc (by first | exact Nat.le_refl _ | (simp only [World.size_alloc]; omega)) _).alloc (by first | exact Nat.le_refl _ | (simp only [World.size_alloc]; omega)) _).trans (b.mono (by omega)), hs⟩
theorem boxes4 {w w1 : World} {o1 o2 o3 o4 : Obj} {B : Nat} (b : Below B ((((w.alloc o1).alloc o2).alloc o3).alloc o4) w1) (hB : B = w.heap.size + 1 + 1 + 1 + 1) : (w1.heap[w.heap.size]? = some o1 ∧ w1.heap[w.heap.size + 1]? = some o2 ∧ w1.heap[w.heap.size + 1 + 1]? = some o3 ∧ w1.heap[w.heap.size + 1 + 1 + 1]? = some o4) ∧ Below w.heap.size w w1 ∧ w.heap.size + 1 + 1 + 1 + 1 ≤ w1.heap.size := by
  subst hB
  have hs : w.heap.size + 1 + 1 + 1 + 1 ≤ w1.heap.size := by have := b.size; simpa using this
  have k1 : ((((w.alloc o1).alloc o2).alloc o3).alloc o4).heap[w.heap.size]? = some o1 := by
    have h := blk_new w o1
    try simp only [World.size_alloc] at h
    exact blk_old (blk_old (blk_old (h)))
  have k2 : ((((w.alloc o1).alloc o2).alloc o3).alloc o4).heap[w.heap.size + 1]? = some o2 := by
    have h := blk_new (w.alloc o1) o2
    try simp only [World.size_alloc] at h
    exact blk_old (blk_old (h))
  have k3 : ((((w.alloc o1).alloc o2).alloc o3).alloc o4).heap[w.heap.size + 1 + 1]? = some o3 := by
    have h := blk_new ((w.alloc o1).alloc o2) o3
    try simp only [World.size_alloc] at h
    exact blk_old (h)
  have k4 : ((((w.alloc o1).alloc o2).alloc o3).alloc o4).heap[w.heap.size + 1 + 1 + 1]? = some o4 := by
    have h := blk_new (((w.alloc o1).alloc o2).alloc o3) o4
    try simp only [World.size_alloc] at h
    exact h
  exact ⟨⟨blk_below k1 b (by omega), blk_below k2 b (by omega), blk_below k3 b (by omega), blk_below k4 b (by omega)⟩, (((((Below.refl _ _).alloc (by first | exact Nat.le_refl _ | (simp only [World.size_alloc]; omega)) _).alloc (by first | exact Nat.le_refl _ | (simp only [World.size_alloc]; omega)) _).alloc (by first | exact Nat.le_refl _ | (simp only [World.size_alloc]; omega)) _).alloc (by first | exact Nat.le_refl _ | (simp only [World.size_alloc]; omega)) _).trans (b.mono (by omega)), hs⟩
theorem boxes5 {w w1 : World} {o1 o2 o3 o4 o5 : Obj} {B : Nat} (b : Below B (((((w.alloc o1).alloc o2).alloc o3).alloc o4).alloc o5) w1) (hB : B = w.heap.size + 1 + 1 + 1 + 1 + 1) : (w1.heap[w.heap.size]? = some o1 ∧ w1.heap[w.heap.size + 1]? = some o2 ∧ w1.heap[w.heap.size + 1 + 1]? = some o3 ∧ w1.heap[w.heap.size + 1 + 1 + 1]? = some o4 ∧ w1.heap[w.heap.size + 1 + 1 + 1 + 1]? = some o5) ∧ Below w.heap.size w w1 ∧ w.heap.size + 1 + 1 + 1 + 1 + 1 ≤ w1.heap.size := by
  subst hB
  have hs : w.heap.size + 1 + 1 + 1 + 1 + 1 ≤ w1.heap.size := by have := b.size; simpa using this
  have k1 : (((((w.alloc o1).alloc o2).alloc o3).alloc o4).alloc o5).heap[w.heap.size]? = some o1 := by
    have h := blk_new w o1
    try simp only [World.size_alloc] at h
    exact blk_old (blk_old (blk_old (blk_old (h))))
  have k2 : (((((w.alloc o1).alloc o2).alloc o3).alloc o4).alloc o5).heap[w.heap.size + 1]? = some o2 := by
    have h := blk_new (w.alloc o1) o2
    try simp only [World.size_alloc] at h
    exact blk_old (blk_old (blk_old (h)))
  have k3 : (((((w.alloc o1).alloc o2).alloc o3).alloc o4).alloc o5).heap[w.heap.size + 1 + 1]? = some o3 := by
    have h := blk_new ((w.alloc o1).alloc o2) o3
    try simp only [World.size_alloc] at h
    exact blk_old (blk_old (h))
  have k4 : (((((w.alloc o1).alloc o2).alloc o3).alloc o4).alloc o5).heap[w.heap.size + 1 + 1 + 1]? = some o4 := by
    have h := blk_new (((w.alloc o1).alloc o2).alloc o3) o4
    try simp only [World.size_alloc] at h
    exact blk_old (h)
  have k5 : (((((w.alloc o1).alloc o2).alloc o3).alloc o4).alloc o5).heap[w.heap.size + 1 + 1 + 1 + 1]? = some o5 := by
    have h := blk_new ((((w.alloc o1).alloc o2).alloc o3).alloc o4) o5
    try simp only [World.size_alloc] at h
    exact h
  exact ⟨⟨blk_below k1 b (by omega), blk_below k2 b (by omega), blk_below k3 b (by omega), blk_below k4 b (by omega), blk_below k5 b (by omega)⟩, ((((((Below.refl _ _).alloc (by first | exact Nat.le_refl _ | (simp only [World.size_alloc]; omega)) _).alloc (by first | exact Nat.le_refl _ | (simp only [World.size_alloc]; omega)) _).alloc (by first | exact Nat.le_refl _ | (simp only [World.size_alloc]; omega)) _).alloc (by first | exact Nat.le_refl _ | (simp only [World.size_alloc]; omega)) _).alloc (by first | exact Nat.le_refl _ | (simp only [World.size_alloc]; omega)) _).trans (b.mono (by omega)), hs⟩

theorem flatMap_get {α : Type} {f : α → List Value} {size : Nat} (hf : ∀ x, (f x).length = size) : ∀ (xs : List α) (j : Nat) (u : Value), (xs.flatMap f)[j]? = some u → ∃ i r x, xs[i]? = some x ∧ (f x)[r]? = some u ∧ j = i * size + r := by
  intro xs
  induction xs with
  | nil => intro j u h; simp at h
  | cons y ys ih =>
    intro j u h
    rw [List.flatMap_cons] at h
    rcases Nat.lt_or_ge j (f y).length with hj | hj
    · rw [List.getElem?_append_left hj] at h
      exact ⟨0, j, y, rfl, h, by omega⟩
    · rw [List.getElem?_append_right hj] at h
      obtain ⟨i, r, x, h1, h2, h3⟩ := ih _ _ h
      refine ⟨i + 1, r, x, h1, h2, ?_⟩
      rw [hf] at h3 hj
      rw [Nat.succ_mul]; omega
theorem RowOf.reads {α : Type} {f : α → List Value} {size : Nat} {w : World} {B : Nat} {A : Option Addr} {xs : List α} (hf : ∀ x, (f x).length = size) (h : RowOf f size w B A xs) : Reads w B size A xs.length (xs.flatMap f) := by
  refine ⟨flatMap_len hf xs, fun hn => ?_⟩
  obtain ⟨b, off, rfl, hb, hc⟩ := h.open_ hn
  refine ⟨_, rfl, hb, fun j u hu => ?_⟩
  obtain ⟨i, r, x, h1, h2, rfl⟩ := flatMap_get hf xs j u hu
  have hadd : (⟨b, off, none⟩ : Addr).add (i * size + r) = ⟨b, off + i * size + r, none⟩ := by
    unfold Addr.add; split
    · rename_i h0; rw [Nat.add_assoc, h0]; rfl
    · simp [Nat.add_assoc]
  rw [hadd]
  exact hc i x h1 r u h2

theorem RowOf.set {α : Type} {f : α → List Value} {size : Nat} {w : World} {B : Nat} {A : Option Addr} {xs : List α} {p : Addr} (h : RowOf f size w B A xs) (hp : ∀ b off, A = some ⟨b, off, none⟩ → b ≠ p.block) (u : Value) : RowOf f size (w.setCell p u) B A xs := fun hn => by
  obtain ⟨b, off, e, hb, hc⟩ := h hn
  exact ⟨b, off, e, hb, fun i x hx j v hv => (World.cell?_setCell_other w p _ u (fun e' => hp b off e (by rw [e']))).trans (hc i x hx j v hv)⟩
theorem own_ne {W wr : World} {e : TypeId} {size n : Nat} {v : Value} {xs : List Value} (h : Own W wr e size v n xs) {g : Nat} {cs : Array Value} {t : TypeId} {fr : Nat × Nat} (hg : wr.heap[g]? = some (.cells cs t fr)) (ht : t ≠ e) : v.ownBlock ≠ some g := by
  intro hv
  rcases h.1.2 with ⟨rfl, _⟩ | ⟨g', cap, cur, rfl, _, hh, _⟩
  · simp [Value.ownBlock] at hv
  · simp [Value.ownBlock] at hv
    subst hv
    rw [hh] at hg
    injection hg with hg
    injection hg with h1 h2 h3
    exact ht h2.symm
theorem Own.rebase {W0 W1 w' : World} {e : TypeId} {size n : Nat} {v : Value} {xs : List Value} (h : Own W1 w' e size v n xs) (hb : Below W0.heap.size W0 W1) : Own W0 w' e size v n xs := by
  obtain ⟨⟨h1, h2⟩, h3, h4⟩ := h
  have hs := hb.size
  refine ⟨⟨h1, ?_⟩, hb.trans (h3.mono hs), by omega⟩
  rcases h2 with h2 | ⟨g, cap, cur, hv, hg, rest⟩
  · exact .inl h2
  · exact .inr ⟨g, cap, cur, hv, by omega, rest⟩

section
variable {P : Program} {ops : Array Oper} {rest : List Oper} {o : Oper} {a : Act} {Q : Exit → Act → World → Prop} {w : World}
/-- make([]T, n), T of one cell -/
theorem make_ones {t e : TypeId} {z : Value} {bytes : Nat} (ht : P.underlying t = some (.slice e)) (hi : (P.info? e).map (fun i => (i.zero, i.size, i.bytes)) = some (some z, 1, bytes)) (hz : z.cells.size = 1) (n : Nat) (hb : bytes * n ≤ 281474976710656) (hn : n ≤ 4611686018427387904)
    (hg : o.guard = none) (l c : Operand) (hop : o.op = .makeSlice t l c) (hl : a.eval l = .int .i64 n) (hc : a.eval c = .int .i64 n)
    (h : ∀ w' cur, Hid (w'.heap[w.heap.size]? = some (.cells cur e (0, 0))) → Hid (cur.size = n) → Hid (Below w.heap.size w w') → w.heap.size < w'.heap.size → wpList P ops Q rest (a.put o.dst (.slice (some ⟨w.heap.size, 0, none⟩) n n)) w') :
    wpList P ops Q (o :: rest) a w := by
  obtain ⟨i0, hi, hz0, hz1, hz2⟩ := info_parts hi
  refine wpList_make_full w hg l c t hop w.heap.size e i0 z 1 ht hi hz0 hz1 .i64 .i64 n n n hl hc rfl rfl (by rw [hz2]; exact hb) (by unfold maxLen; omega) (Nat.le_refl _) ?_
  intro w' hown hgrow
  rcases hown.2 with ⟨h1, _⟩ | ⟨g, cap, cur, h1, _, h2, _, _, h3, _⟩
  · cases h1
  · injection h1 with h1 h4 h5
    injection h1 with h1
    injection h1 with h1
    subst h1; subst h5
    have hlt := blk_lt h2
    exact h w' cur (Lib.hid h2) (Lib.hid (by simpa using h3)) (Lib.hid ((Below.refl _ w).grown hgrow (Nat.le_refl _) (fun j hj => by cases hj))) hlt
/-- copy into a row of the same length, cells of one cell each -/
theorem copy_ones {t e : TypeId} (ht : P.underlying t = some (.slice e)) (hsz : (P.info? e).map (·.size) = some 1) {g : Nat} {cur : Array Value} (HC : Hid (w.heap[g]? = some (.cells cur e (0, 0)))) {B n : Nat} (HL : Hid (cur.size = n))
    {A : Option Addr} {cs : List Value} (HR : Hid (Reads w B 1 A n cs)) (h1 : Hid (∀ u ∈ cs, u.oneCell' = true)) (c : Nat)
    (hgd : o.guard = none) (d s : Operand) (ho : o.op = .call { callee := .builtin .copy, args := #[d, s], argTypes := #[t, t] }) (hd : a.eval d = .slice (some ⟨g, 0, none⟩) n n) (hs : a.eval s = .slice A n c)
    (h : ∀ w', Hid (w'.heap[g]? = some (.cells cs.toArray e (0, 0))) → Hid (Below g w w') → wpList P ops Q rest (a.put o.dst (goInt n)) w') : wpList P ops Q (o :: rest) a w := by
  have hl : cs.length = n := by have := HR.out.1; omega
  have hcl := HL.out
  refine wpList_copy_splice hgd d s t t ho e ht hsz _ _ n n n c hd hs g 0 cur.toList e (by rw [Array.toArray_toList]; exact HC.out) cs (by rw [hl]; exact (Nat.min_self n).symm) (fun hp => ⟨rfl, ?_⟩) (by simp; omega) h1.out g w (Below.refl _ _) (Nat.le_refl _) ?_
  · obtain ⟨ad, e1, _, e2⟩ := HR.out.2 (by omega)
    exact ⟨ad, e1, e2⟩
  · intro w' k1 k2
    have e : splice cur.toList 0 cs = cs := by
      unfold splice
      rw [List.take_zero, List.nil_append, List.drop_eq_nil_of_le (by simp; omega), List.append_nil]
    rw [hl]
    exact h w' (Lib.hid (by have := k1.out; rw [e] at this; exact this)) (Lib.hid k2)
end

section
variable {W wr w' : World} {e : TypeId} {size n : Nat} {v : Value} {xs : List Value}
/-- an append of one element onto a row of the call's own: all other blocks are kept -/
theorem append_keep {P : Program} {ops : Array Oper} {rest : List Oper} {o : Oper} {a : Act} {Q : Exit → Act → World → Prop} (hh : Hid (Own W wr e size v n xs))
    (cs : Array Value) (hcs : cs.size = size) (h1 : ∀ u ∈ cs.toList, u.oneCell' = true) (t : TypeId) (z : Value) (bytes : Nat) (ht : P.underlying t = some (.slice e))
    (hi : (P.info? e).map (fun i => (i.zero, i.size, i.bytes)) = some (some z, size, bytes)) (hzs : z.cells.size = size) (hsz : 0 < size)
    (h63 : n + 1 ≤ maxLen) (hbytes : (n + 1) * bytes ≤ 140737488355328)
    (hgd : o.guard = none) (s x : Operand) (ho : o.op = .call { callee := .builtin .append, args := #[s, x], argTypes := #[t, t] })
    (hs : a.eval s = v) (gn : Nat) (hgn : Hid (gn = wr.heap.size)) (hx : a.eval x = .slice (some ⟨gn, 0, none⟩) 1 1)
    (h : ∀ v' w', Hid (Own W w' e size v' (n + 1) (xs ++ cs.toList)) → Hid (∀ g o, wr.heap[g]? = some o → v.ownBlock ≠ some g → w'.heap[g]? = some o) → wpList P ops Q rest (a.put o.dst v') w') :
    wpList P ops Q (o :: rest) a (wr.alloc (.cells cs e)) := by
  obtain rfl := hgn.out
  obtain ⟨k1, k2, k3⟩ := hh.out
  obtain ⟨i0, hi, hz0, hz1, hz2⟩ := info_parts hi
  refine wpList_append_own _ hgd s x t ho W.heap.size e i0 z size bytes ht hi hz0 hz1 hz2 hzs hsz v n xs hs (k1.alloc _) ⟨wr.heap.size, 0, none⟩ 1 1 cs.toList hx (by simp [hcs]) ?_ h1 h63 hbytes (by simp; omega) ?_
  · intro j u hu
    have hadd : (⟨wr.heap.size, 0, none⟩ : Addr).add j = ⟨wr.heap.size, j, none⟩ := by unfold Addr.add; split <;> simp_all
    rw [hadd]
    simp only [World.cell?, heap_alloc_new]
    simpa using hu
  · intro v' w' m1 m2 m3
    refine h v' w' ⟨m1, ?_, ?_⟩ (Lib.hid fun g o hg hne => (m2.block g (blk_lt (blk_old hg)) (fun e => hne e.symm)).trans (blk_old hg))
    · exact (k2.alloc k3 _).grown m2 (by simp; omega) (fun g hg => own_ge' k1 hg)
    · have := m2.size; simp at this; omega
end

end Go.Proofs.Ytlfiooenbgegkaa
