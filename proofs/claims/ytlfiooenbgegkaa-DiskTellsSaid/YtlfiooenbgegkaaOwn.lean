/- A row of the call's own: what it holds, and what one append does to it. -/
import Derived.Below
import Derived.Laws.OwnMore
import Derived.RegionTactic
import Derived.OwnWalk
import Derived.Deep.Draws
import Derived.Lib.Hide
namespace Go.Proofs.Ytlfiooenbgegkaa
open Go.RowKit

/-- the slice v owns the row xs in blocks that are new since W; older memory is as in W -/
def Own (W wr : World) (e : TypeId) (size : Nat) (v : Value) (n : Nat) (xs : List Value) : Prop :=
  wr.ownsRow W.heap.size e size v n xs ∧ Below W.heap.size W wr ∧ W.heap.size ≤ wr.heap.size

section
variable {W wr w' : World} {e : TypeId} {size n : Nat} {v : Value} {xs : List Value}
theorem Own.nil (W : World) (e : TypeId) (size : Nat) : Own W W e size (.slice none 0 0) 0 [] := ⟨World.ownsRow_nil _ _ _ _, Below.refl _ _, Nat.le_refl _⟩
theorem Own.nil_at (h : Below W.heap.size W wr) : Own W wr e size (.slice none 0 0) 0 [] := ⟨World.ownsRow_nil _ _ _ _, h, h.size⟩
theorem Own.form (h : Own W wr e size v n xs) : ∃ A c, v = .slice A n c := by
  rcases h.1.2 with ⟨rfl, rfl⟩ | ⟨g, cap, cur, rfl, _⟩
  · exact ⟨none, 0, rfl⟩
  · exact ⟨_, _, rfl⟩
theorem own_ge' {w : World} {base g : Nat} (h : w.ownsRow base e size v n xs) (hg : v.ownBlock = some g) : base ≤ g := by
  rcases h.2 with ⟨rfl, _⟩ | ⟨g', cap, cur, rfl, hb, _⟩
  · simp [Value.ownBlock] at hg
  · simp [Value.ownBlock] at hg; omega
theorem Own.below (h : Own W wr e size v n xs) (hb : Below wr.heap.size wr w') : Own W w' e size v n xs := by
  obtain ⟨⟨h1, h2⟩, h3, h4⟩ := h
  refine ⟨⟨h1, ?_⟩, h3.trans (hb.mono h4), Nat.le_trans h4 hb.size⟩
  rcases h2 with h2 | ⟨g, cap, cur, hv, hg, hh, hr⟩
  · exact .inl h2
  · exact .inr ⟨g, cap, cur, hv, hg, (hb.block g (Array.getElem?_eq_some_iff.1 hh).1).trans hh, hr⟩
theorem Own.alloc (h : Own W wr e size v n xs) (o : Obj) : Own W (wr.alloc o) e size v n xs := h.below ((Below.refl _ _).alloc (Nat.le_refl _) _)
/-- a write to another block of the call's own -/
theorem Own.setCell (h : Own W wr e size v n xs) {p : Addr} (hp : W.heap.size ≤ p.block) (hne : v.ownBlock ≠ some p.block) (u : Value) : Own W (wr.setCell p u) e size v n xs := by
  obtain ⟨⟨h1, h2⟩, h3, h4⟩ := h
  refine ⟨⟨h1, ?_⟩, h3.setCell hp _, by simp; omega⟩
  rcases h2 with h2 | ⟨g, cap, cur, hv, hg, hh, hr⟩
  · exact .inl h2
  · refine .inr ⟨g, cap, cur, hv, hg, ?_, hr⟩
    rw [Below.heap_setCell _ _ _ _ (by intro e; apply hne; rw [hv]; simp [Value.ownBlock, e])]
    exact hh
theorem Own.cells {A : Option Addr} {c : Nat} (h : Own W wr e size (.slice A n c) n xs) (hn : 0 < n) : ∃ g, A = some ⟨g, 0, none⟩ ∧ W.heap.size ≤ g ∧ g < wr.heap.size ∧ n ≤ c ∧ ∀ j u, xs[j]? = some u → wr.cell? ⟨g, j, none⟩ = some u := by
  rcases h.1.2 with ⟨_, h0⟩ | ⟨g, cap, cur, hv, hb, hg, hc, _, _, ht⟩
  · omega
  · injection hv with h1 h2 h3
    subst h1; subst h3
    refine ⟨g, rfl, hb, (Array.getElem?_eq_some_iff.1 hg).1, hc, fun j u hu => ?_⟩
    rw [← ht, List.getElem?_take] at hu
    split at hu
    · simp only [World.cell?, hg]
      simpa using hu
    · cases hu
theorem Own.lt {A : Option Addr} {c : Nat} (h : Own W wr e size (.slice A n c) n xs) : n ≤ c := by
  rcases h.1.2 with ⟨hv, h0⟩ | ⟨g, cap, cur, hv, hb, hg, hc, _⟩
  · omega
  · injection hv with h1 h2 h3; omega

theorem append_one {P : Program} {ops : Array Oper} {rest : List Oper} {o : Oper} {a : Act} {Q : Exit → Act → World → Prop} (hh : Hid (Own W wr e size v n xs))
    (cs : Array Value) (hcs : cs.size = size) (h1 : ∀ u ∈ cs.toList, u.oneCell' = true) (t : TypeId) (z : Value) (bytes : Nat) (ht : P.underlying t = some (.slice e))
    (hi : (P.info? e).map (fun i => (i.zero, i.size, i.bytes)) = some (some z, size, bytes)) (hzs : z.cells.size = size) (hsz : 0 < size)
    (h63 : n + 1 ≤ maxLen) (hbytes : (n + 1) * bytes ≤ 140737488355328)
    (hgd : o.guard = none) (s x : Operand) (ho : o.op = .call { callee := .builtin .append, args := #[s, x], argTypes := #[t, t] })
    (hs : a.eval s = v) (gn : Nat) (hgn : Hid (gn = wr.heap.size)) (hx : a.eval x = .slice (some ⟨gn, 0, none⟩) 1 1)
    (h : ∀ v' w', Hid (Own W w' e size v' (n + 1) (xs ++ cs.toList)) → wpList P ops Q rest (a.put o.dst v') w') :
    wpList P ops Q (o :: rest) a (wr.alloc (.cells cs e)) := by
  obtain rfl := hgn.out
  obtain ⟨k1, k2, k3⟩ := hh.out
  obtain ⟨i0, hi, hz0, hz1, hz2⟩ := info_parts hi
  refine wpList_append_own _ hgd s x t ho W.heap.size e i0 z size bytes ht hi hz0 hz1 hz2 hzs hsz v n xs hs (k1.alloc _) ⟨wr.heap.size, 0, none⟩ 1 1 cs.toList hx (by simp [hcs]) ?_ h1 h63 hbytes (by simp; omega) ?_
  · intro j u hu
    have hadd : (⟨wr.heap.size, 0, none⟩ : Addr).add j = ⟨wr.heap.size, j, none⟩ := by unfold Addr.add; split <;> simp_all
    rw [hadd]
    simp only [World.cell?, heap_alloc_new]
    simpa using hu
  · intro v' w' m1 m2 m3
    refine h v' w' ⟨m1, ?_, ?_⟩
    · exact (k2.alloc k3 _).grown m2 (by simp; omega) (fun g hg => own_ge' k1 hg)
    · have := m2.size; simp at this; omega
end

theorem below_drewN {B : Nat} {a w : World} (h : Below B a w) (n : Nat) : Below B a (w.drewN n) := h.trans ⟨rfl, rfl, rfl, Nat.le_refl _, fun _ _ => rfl⟩
/-- a slice that reads as the elements xs, each of so many cells -/
def RowOf {α : Type} (f : α → List Value) (size : Nat) (w : World) (B : Nat) (A : Option Addr) (xs : List α) : Prop :=
  xs ≠ [] → ∃ b off, A = some ⟨b, off, none⟩ ∧ b < B ∧ ∀ i x, xs[i]? = some x → ∀ j u, (f x)[j]? = some u → w.cell? ⟨b, off + i * size + j, none⟩ = some u
section
variable {α : Type} {f : α → List Value} {size : Nat} {w w' : World} {B B' : Nat} {A : Option Addr} {xs : List α}
theorem RowOf.nil : RowOf f size w B A [] := fun h => absurd rfl h
theorem RowOf.more (h : RowOf f size w B A xs) (hB : B ≤ B') : RowOf f size w B' A xs := fun hn => by
  obtain ⟨b, off, e, hb, hc⟩ := h hn
  exact ⟨b, off, e, by omega, hc⟩
theorem RowOf.below (h : RowOf f size w B A xs) (hb : Below B w w') : RowOf f size w' B A xs := fun hn => by
  obtain ⟨b, off, e, hlt, hc⟩ := h hn
  exact ⟨b, off, e, hlt, fun i x hx j u hu => (hb.cell (p := ⟨b, _, none⟩) hlt).trans (hc i x hx j u hu)⟩
/-- the same, behind a call that leaves all older memory as it is -/
theorem RowOf.step (h : RowOf f size w w.heap.size A xs) (hb : Below w.heap.size w w') : RowOf f size w' w'.heap.size A xs := (h.below hb).more hb.size
theorem RowOf.open_ (h : RowOf f size w B A xs) (hn : 0 < xs.length) : ∃ b off, A = some ⟨b, off, none⟩ ∧ b < B ∧ ∀ i x, xs[i]? = some x → ∀ j u, (f x)[j]? = some u → w.cell? ⟨b, off + i * size + j, none⟩ = some u :=
  h (by intro e; rw [e] at hn; simp at hn)
theorem flatMap_at (hf : ∀ x, (f x).length = size) : ∀ (xs : List α) (i : Nat) (x : α), xs[i]? = some x → ∀ j u, (f x)[j]? = some u → (xs.flatMap f)[i * size + j]? = some u := by
  intro xs
  induction xs with
  | nil => intro i x h; simp at h
  | cons y ys ih =>
    intro i x h j u hu
    rw [List.flatMap_cons]
    match i with
    | 0 =>
      simp at h; subst h
      have hj : j < (f y).length := (List.getElem?_eq_some_iff.1 hu).1
      rw [Nat.zero_mul, Nat.zero_add, List.getElem?_append_left hj]; exact hu
    | i + 1 =>
      simp at h
      rw [List.getElem?_append_right (by rw [hf, Nat.succ_mul]; omega), hf]
      rw [show (i + 1) * size + j - size = i * size + j by rw [Nat.succ_mul]; omega]
      exact ih i x h j u hu
theorem flatMap_len (hf : ∀ x, (f x).length = size) (xs : List α) : (xs.flatMap f).length = xs.length * size := by
  induction xs with
  | nil => simp
  | cons y ys ih => rw [List.flatMap_cons, List.length_append, hf, ih, List.length_cons, Nat.succ_mul]; omega
theorem Own.row {W wr : World} {e : TypeId} {c n : Nat} (hf : ∀ x, (f x).length = size) (hn : n = xs.length) (h : Own W wr e size (.slice A n c) n (xs.flatMap f)) : RowOf f size wr wr.heap.size A xs := by
  subst hn
  intro hne
  obtain ⟨g, e1, _, hlt, _, hc⟩ := h.cells (List.length_pos_iff.2 hne)
  exact ⟨g, 0, e1, hlt, fun i x hx j u hu => by rw [Nat.zero_add]; exact hc _ _ (flatMap_at hf xs i x hx j u hu)⟩
end

end Go.Proofs.Ytlfiooenbgegkaa
