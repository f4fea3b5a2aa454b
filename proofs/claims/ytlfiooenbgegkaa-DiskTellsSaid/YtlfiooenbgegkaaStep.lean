/- An append as one step of a region that draws its order: onto a row of the call's own, from older memory or from a new block. -/
import Derived.Test.YtlfiooenbgegkaaOwn
import Derived.Test.YtlfiooenbgegkaaWords
import Derived.Deep.RegionLaw
namespace Go.Proofs.Ytlfiooenbgegkaa
open Go.RowKit

theorem step_own_old {P : Program} {ops : Array Oper} {o : Oper} {a : Act} {K : Act → World → Prop} {Q : Exit → Act → World → Prop} {E : Prop} {W wx : World} {e : TypeId} {size n : Nat} {v : Value} {xs : List Value}
    (hh : Hid (Own W wx e size v n xs)) {A : Option Addr} {m : Nat} {news : List Value} (hr : Hid (Reads W W.heap.size size A m news)) (h1 : Hid (∀ u ∈ news, u.oneCell' = true)) (c : Nat)
    (t : TypeId) (z : Value) (bytes : Nat) (ht : P.underlying t = some (.slice e)) (hi : (P.info? e).map (fun i => (i.zero, i.size, i.bytes)) = some (some z, size, bytes)) (hzs : z.cells.size = size) (hsz : 0 < size)
    (h63 : n + m ≤ maxLen) (hbytes : (n + m) * bytes ≤ 140737488355328) (hgd : o.guard = none) (s x : Operand) (ho : o.op = .call { callee := .builtin .append, args := #[s, x], argTypes := #[t, t] })
    (hs : a.eval s = v) (hx : a.eval x = .slice A m c)
    (h : ∀ v' w', Hid (Own W w' e size v' (n + m) (xs ++ news)) → Hid (∀ g, g < wx.heap.size → v.ownBlock ≠ some g → w'.heap[g]? = wx.heap[g]?) → K (a.put o.dst v') w') :
    if Region.wanted o (yielded ops a.tmps) = true then Oper.wp P o a wx K Q else E := by
  obtain ⟨k1, k2, k3⟩ := hh.out
  obtain ⟨i0, hi, hz0, hz1, hz2⟩ := info_parts hi
  refine step_append_any wx hgd s x t ho W.heap.size e i0 z size bytes ht hi hz0 hz1 hz2 hzs hsz v n xs hs k1 W.heap.size A m c news hx (hr.out.below k2) h1.out h63 hbytes k3 ?_
  intro v' w' m1 m2 m3
  refine h v' w' ⟨m1, k2.grown m2 k3 (fun g hg => own_ge' k1 hg), Nat.le_trans k3 m2.size⟩ (fun g hg hne => m2.block g hg (fun e => hne e.symm))

theorem step_own_blk {P : Program} {ops : Array Oper} {o : Oper} {a : Act} {K : Act → World → Prop} {Q : Exit → Act → World → Prop} {E : Prop} {W wx : World} {e : TypeId} {size n : Nat} {v : Value} {xs : List Value}
    (hh : Hid (Own W wx e size v n xs)) {g : Nat} {cs : Array Value} {T : TypeId} {fr : Nat × Nat} (hb : Hid (wx.heap[g]? = some (.cells cs T fr))) (hcs : cs.size = size) (h1 : Hid (∀ u ∈ cs.toList, u.oneCell' = true))
    (t : TypeId) (z : Value) (bytes : Nat) (ht : P.underlying t = some (.slice e)) (hi : (P.info? e).map (fun i => (i.zero, i.size, i.bytes)) = some (some z, size, bytes)) (hzs : z.cells.size = size) (hsz : 0 < size)
    (h63 : n + 1 ≤ maxLen) (hbytes : (n + 1) * bytes ≤ 140737488355328) (hgd : o.guard = none) (s x : Operand) (ho : o.op = .call { callee := .builtin .append, args := #[s, x], argTypes := #[t, t] })
    (hs : a.eval s = v) (hx : a.eval x = .slice (some ⟨g, 0, none⟩) 1 1)
    (h : ∀ v' w', Hid (Own W w' e size v' (n + 1) (xs ++ cs.toList)) → Hid (∀ g, g < wx.heap.size → v.ownBlock ≠ some g → w'.heap[g]? = wx.heap[g]?) → K (a.put o.dst v') w') :
    if Region.wanted o (yielded ops a.tmps) = true then Oper.wp P o a wx K Q else E := by
  obtain ⟨k1, k2, k3⟩ := hh.out
  obtain ⟨i0, hi, hz0, hz1, hz2⟩ := info_parts hi
  have hlt : g < wx.heap.size := (Array.getElem?_eq_some_iff.1 hb.out).1
  refine step_append_any wx hgd s x t ho W.heap.size e i0 z size bytes ht hi hz0 hz1 hz2 hzs hsz v n xs hs k1 wx.heap.size (some ⟨g, 0, none⟩) 1 1 cs.toList hx ⟨by simp [hcs], fun _ => ⟨_, rfl, hlt, fun j u hu => ?_⟩⟩ h1.out h63 hbytes k3 ?_
  · have hadd : (⟨g, 0, none⟩ : Addr).add j = ⟨g, j, none⟩ := by unfold Addr.add; split <;> simp_all
    rw [hadd]
    simp only [World.cell?, hb.out]
    simpa using hu
  · intro v' w' m1 m2 m3
    refine h v' w' ⟨m1, k2.grown m2 k3 (fun g hg => own_ge' k1 hg), Nat.le_trans k3 m2.size⟩ (fun g hg hne => m2.block g hg (fun e => hne e.symm))

theorem append_own_old {P : Program} {ops : Array Oper} {rest : List Oper} {o : Oper} {a : Act} {Q : Exit → Act → World → Prop} {W wx : World} {e : TypeId} {size n : Nat} {v : Value} {xs : List Value}
    (hh : Hid (Own W wx e size v n xs)) {A : Option Addr} {m : Nat} {news : List Value} (hr : Hid (Reads W W.heap.size size A m news)) (h1 : Hid (∀ u ∈ news, u.oneCell' = true)) (c : Nat)
    (t : TypeId) (z : Value) (bytes : Nat) (ht : P.underlying t = some (.slice e)) (hi : (P.info? e).map (fun i => (i.zero, i.size, i.bytes)) = some (some z, size, bytes)) (hzs : z.cells.size = size) (hsz : 0 < size)
    (h63 : n + m ≤ maxLen) (hbytes : (n + m) * bytes ≤ 140737488355328) (hgd : o.guard = none) (s x : Operand) (ho : o.op = .call { callee := .builtin .append, args := #[s, x], argTypes := #[t, t] })
    (hs : a.eval s = v) (hx : a.eval x = .slice A m c)
    (h : ∀ v' w', Hid (Own W w' e size v' (n + m) (xs ++ news)) → wpList P ops Q rest (a.put o.dst v') w') : wpList P ops Q (o :: rest) a wx := by
  obtain ⟨k1, k2, k3⟩ := hh.out
  obtain ⟨i0, hi, hz0, hz1, hz2⟩ := info_parts hi
  refine wpList_append_any wx hgd s x t ho W.heap.size e i0 z size bytes ht hi hz0 hz1 hz2 hzs hsz v n xs hs k1 W.heap.size A m c news hx (hr.out.below k2) h1.out h63 hbytes k3 ?_
  intro v' w' m1 m2 m3
  exact h v' w' ⟨m1, k2.grown m2 k3 (fun g hg => own_ge' k1 hg), Nat.le_trans k3 m2.size⟩

/-- a row of one element, just made -/
theorem own_single {W : World} {e : TypeId} {size : Nat} (cs : Array Value) (hs : cs.size = size) : Own W (W.alloc (.cells cs e)) e size (.slice (some ⟨W.heap.size, 0, none⟩) 1 1) 1 cs.toList :=
  ⟨⟨by simp [hs], .inr ⟨W.heap.size, 1, cs, rfl, Nat.le_refl _, heap_alloc_new W _, Nat.le_refl _, by unfold maxLen; omega, by simp [hs], by rw [List.take_of_length_le (by simp [hs])]⟩⟩, (Below.refl _ _).alloc (Nat.le_refl _) _, by simp⟩

/-- an empty row of the call's own -/
theorem own_empty {W wx : World} {e : TypeId} {size g : Nat} (hg : wx.heap[g]? = some (.cells #[] e (0, 0))) (hW : W.heap.size ≤ g) (hb : Below W.heap.size W wx) : Own W wx e size (.slice (some ⟨g, 0, none⟩) 0 0) 0 [] :=
  ⟨⟨by simp, .inr ⟨g, 0, #[], rfl, hW, hg, Nat.le_refl _, by unfold maxLen; omega, by simp, by simp⟩⟩, hb, hb.size⟩

end Go.Proofs.Ytlfiooenbgegkaa
