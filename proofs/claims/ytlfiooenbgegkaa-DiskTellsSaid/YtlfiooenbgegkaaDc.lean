/- slices.Clone of a disk's writes, and fresh, walked. -/
import Derived.Test.YtlfiooenbgegkaaDb
import Derived.Test.YtlfiooenbgegkaaBlk
import Derived.Test.YtlfiooenbgegkaaStep
namespace Go.Proofs.Ytlfiooenbgegkaa
open Go.RowKit Ds
set_option linter.unusedSimpArgs false
set_option linter.unusedVariables false

theorem str_info : (Try.prog.info? 9).map (fun i => (i.zero, i.size, i.bytes)) = some (some (.string ⟨#[]⟩), 1, 16) := by kernel_rfl
theorem wr_info : (Try.prog.info? 44).map (fun i => (i.zero, i.size, i.bytes)) = some (some (.agg #[.int .i64 0, .string ⟨#[]⟩]), 2, 24) := by kernel_rfl
def wcells (p : List Wr) : List Value := p.flatMap wcell
theorem wcells_ones (p : List Wr) : ∀ u ∈ wcells p, u.oneCell' = true := by
  intro u hu
  obtain ⟨x, _, hx⟩ := List.mem_flatMap.1 hu
  simp [wcell] at hx
  rcases hx with rfl | rfl <;> rfl
def scells (l : List ByteArray) : List Value := l.flatMap scell
theorem scells_map (l : List ByteArray) : scells l = l.map Value.string := by
  induction l with
  | nil => rfl
  | cons x l ih => show _ :: scells l = _; rw [ih]; rfl
theorem scells_ones (l : List ByteArray) : ∀ u ∈ scells l, u.oneCell' = true := by
  rw [scells_map]; intro u hu; obtain ⟨x, _, rfl⟩ := List.mem_map.1 hu; rfl

theorem clone_any (A : Option Addr) (c : Nat) (p : List Wr) (w : World) (h : RowOf wcell 2 w w.heap.size A p) (hl : p.length ≤ 512) :
    Calls Try.prog 47 #[.slice A p.length c] w fun e w' => ∃ A2 c2, e = .returned (.slice A2 p.length c2) ∧ Own w w' 44 2 (.slice A2 p.length c2) p.length (wcells p) := by
  rcases A with _ | ad
  · have hp : p = [] := by
      match p, h with
      | [], _ => rfl
      | x :: p, h => obtain ⟨b, off, e, _⟩ := h (by simp); cases e
    subst hp
    go_enter Try.func47, Try.ntmps47
    have q := fun (w : World) (a : Option Addr) (n c n' c' : Nat) => Lib.run_eql_slice_nil (P := Try.prog) w _ _ a n c n' c' Try.underlying23
    go_wp2_with fail
    go_ret
    exact ⟨none, 0, rfl, Own.nil _ _ _⟩
  · have HR := Lib.hid (RowOf.reads wcell_len h)
    clear h
    have q := fun (w : World) (a : Option Addr) (n c n' c' : Nat) => Lib.run_eql_slice_nil (P := Try.prog) w _ _ a n c n' c' Try.underlying23
    have HO : Hid (Own w (w.alloc (.cells #[] 44)) 44 2 (.slice (some ⟨w.heap.size, 0, none⟩) 0 0) 0 []) :=
      Lib.hid ⟨World.ownsRow_made w #[] 0 (Nat.le_refl _) (Nat.zero_le _) (by simp), (Below.refl _ _).alloc (Nat.le_refl _) _, by simp⟩
    have HW := Lib.hid (wcells_ones p)
    go_enter Try.func47, Try.ntmps47
    go_wp2_with (at_builtin; refine append_own_old HO HR HW c 23 _ 24 Try.underlying23 wr_info rfl (by decide) (by unfold maxLen; omega) (by omega) rfl _ _ rfl rfl rfl ?_; intro v' w' HV)
    have hv := HV.out
    rw [Nat.zero_add, List.nil_append] at hv
    obtain ⟨A2, c2, rfl⟩ := hv.form
    have HV2 := Lib.hid hv
    clear hv
    go_ret
    exact ⟨A2, c2, rfl, HV2.out⟩

/-- the disk's sectors and writes in memory of the call's own -/
def FreshAt (w w' : World) (g : Nat) (A2 : Option Addr) (c2 : Nat) (d : Dk) : Prop :=
  w.heap.size ≤ g ∧ w'.heap[g]? = some (.cells (scells d.secs).toArray 9 (0, 0)) ∧ Own w w' 44 2 (.slice A2 d.pend.length c2) d.pend.length (wcells d.pend) ∧ (Value.slice A2 d.pend.length c2).ownBlock ≠ some g
theorem FreshAt.set {w w' : World} {g : Nat} {A2 : Option Addr} {c2 : Nat} {d : Dk} (h : FreshAt w w' g A2 c2 d) {p : Addr} (hp : w.heap.size ≤ p.block) (h1 : g ≠ p.block) (h2 : (Value.slice A2 d.pend.length c2).ownBlock ≠ some p.block) (u : Value) : FreshAt w (w'.setCell p u) g A2 c2 d :=
  ⟨h.1, blk_other h.2.1 h1, h.2.2.1.setCell hp h2 u, h.2.2.2⟩

set_option maxHeartbeats 4000000 in
theorem fresh_any (A : Option Addr) (c : Nat) (A' : Option Addr) (c' : Nat) (d : Dk) (w : World) (h : DiskAt w w.heap.size A c A' c' d) (hl1 : d.secs.length ≤ 512) (hl2 : d.pend.length ≤ 512) :
    Calls Try.prog 37 #[dv A c A' c' d] w fun e w' => ∃ g A2 c2, e = .returned (dv (some ⟨g, 0, none⟩) d.secs.length A2 c2 d) ∧ FreshAt w w' g A2 c2 d := by
  obtain ⟨l, p, left, down⟩ := d
  unfold dv dcells
  simp only at hl1 hl2 ⊢
  obtain ⟨W, hW⟩ : ∃ W, W = (w.alloc (.cells #[.slice A l.length c, .slice A' p.length c', .int .i64 left, .bool down] 25)).alloc (.cells #[.slice none 0 0, .slice none 0 0, .int .i64 0, .bool false] 25) := ⟨_, rfl⟩
  have hWs : W.heap.size = w.heap.size + 1 + 1 := by rw [hW]; simp
  have K1 := Lib.hid (show W.heap[w.heap.size]? = some (.cells #[.slice A l.length c, .slice A' p.length c', .int .i64 left, .bool down] 25 (0, 0)) by rw [hW]; exact blk_old (blk_new _ _))
  have K2 := Lib.hid (show W.heap[w.heap.size + 1]? = some (.cells #[.slice none 0 0, .slice none 0 0, .int .i64 0, .bool false] 25 (0, 0)) by rw [hW]; simpa using blk_new (w.alloc (.cells #[.slice A l.length c, .slice A' p.length c', .int .i64 left, .bool down] 25)) (.cells #[.slice none 0 0, .slice none 0 0, .int .i64 0, .bool false] 25))
  have hb : Below w.heap.size w W := by rw [hW]; exact ((Below.refl _ _).alloc (Nat.le_refl _) _).alloc (by simp) _
  have HD := Lib.hid (h.step hb)
  have HB := Lib.hid hb
  have HW := Lib.hid hW
  have HS := Lib.hid hWs
  clear h hb hW hWs
  obtain ⟨⟨a0, a1, a2, a3⟩, f0, f1, f2, f3⟩ := blk4 K1.out
  go_enter Try.func37, Try.ntmps37
  go_wp2_with (first
    | (at_make; rw [← HW.out]; refine make_ones Try.underlying22 str_info rfl l.length (by omega) (by omega) rfl _ _ rfl rfl rfl ?_; intro w3 cur HC HL HB3 hz3; have K1' := Lib.hid (blk_call K1.out HB3.out); have K2' := Lib.hid (blk_call K2.out HB3.out); obtain ⟨⟨b0, b1, b2, b3⟩, g0, g1, g2, g3⟩ := blk4 K1'.out; have HR := Lib.hid (RowOf.reads scell_len (HD.out.secs.below HB3.out)); have H1 := Lib.hid (scells_ones l))
    | (refine copy_ones Try.underlying22 (by kernel_rfl) HC HL HR H1 c rfl (.tmp 8) (.tmp 10) rfl rfl rfl ?_; intro w4 HC4 HB4; have K1'' := Lib.hid (blk_below K1'.out HB4.out (by rw [HS.out]; omega)); have K2'' := Lib.hid (blk_below K2'.out HB4.out (by rw [HS.out]; omega)); obtain ⟨⟨c0, c1, c2, c3⟩, h0, h1, h2, h3⟩ := blk4 K1''.out))
  have HBW := Lib.hid (HB3.out.trans HB4.out)
  have HP := (HD.out.pend.below HBW.out).more HBW.out.size
  refine (clone_any A' c' p w4 HP hl2).mono ?_
  rintro e w5 ⟨A2, q2, rfl, ho⟩
  have HO := Lib.hid ho
  have K3 := Lib.hid (blk_call K1''.out ho.2.1)
  have K4 := Lib.hid (blk_call K2''.out ho.2.1)
  have HC5 := Lib.hid (blk_call HC4.out ho.2.1)
  obtain ⟨⟨i0, i1, i2, i3⟩, j0, j1, j2, j3⟩ := blk4 K3.out
  obtain ⟨⟨k0, k1, k2, k3⟩, l0, l1, l2, l3⟩ := blk4 K4.out
  clear ho c0 c1 c2 c3 h0 h1 h2 h3 b0 b1 b2 b3 g0 g1 g2 g3 HP
  have hlt4 : W.heap.size < w4.heap.size := blk_lt HC4.out
  have HF := Lib.hid (show FreshAt w w5 W.heap.size A2 q2 ⟨l, p, left, down⟩ from ⟨by rw [HS.out]; omega, HC5.out, HO.out.rebase (HB.out.trans (HBW.out.mono (by rw [HS.out]; omega))), fun e => by have := own_ge' HO.out.1 e; omega⟩)
  have hne : ∀ k, k < w4.heap.size → (Value.slice A2 p.length q2).ownBlock ≠ some k := fun k hk e => by have := own_ge' HO.out.1 e; omega
  have HN := Lib.hid hne
  clear hne HO HC5 hlt4
  go_wp2_with fail
  refine bodyPost_ret (v := .agg #[.slice (some ⟨W.heap.size, 0, none⟩) l.length l.length, .slice A2 p.length q2, .int .i64 left, .bool down]) (by simp [results, Try.results37, go_sem, *]) rfl ⟨W.heap.size, A2, q2, rfl, ?_⟩
  have hs4 : w.heap.size + 1 + 1 < w4.heap.size := by rw [← HS.out]; exact blk_lt HC4.out
  repeat first
    | with_reducible exact HF.out
    | refine FreshAt.set ?_ (by simp only; omega) (by simp only; rw [HS.out]; omega) (HN.out _ (by simp only; omega)) _

end Go.Proofs.Ytlfiooenbgegkaa
