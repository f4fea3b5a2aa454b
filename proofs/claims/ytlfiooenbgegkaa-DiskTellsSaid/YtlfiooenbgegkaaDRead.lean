/- An argument that is a disk, by value. -/
import Derived.Test.YtlfiooenbgegkaaDa
import Derived.Test.YtlfiooenbgegkaaAgg
import Derived.Test.YtlfiooenbgegkaaRows1
import Derived.Test.YtlfiooenbgegkaaRows
import Derived.ProofKit
import Derived.OpenShut
import Derived.ShutString
import Derived.ChangeOld
import Derived.Deep.Slices
import Derived.Deep.Fields
import Derived.ChangeSame
namespace Go.Proofs.Ytlfiooenbgegkaa
open Go.ChangeShapes Go.WideShapes Go.ChangeAt Go.RowKit Go.Deep Ds

theorem own : ownKnob Try.prog.godebug = none := by kernel_rfl
theorem laidOut : laidOutB Try.prog = true := by kernel_rfl

section
variable {H : Type} {enc : TypeId × Value → H} {w : World} {base : Nat} {spare : Nat → Bool} {held : Bool}
theorem open_strs {fuel : Nat} {v : Value} {x : DataW H × List MemPlace} (h : DataW.trod enc Try.prog w base spare held fuel 22 [v] = some x) :
    ∃ (A : Option Addr) (c : Nat) (l : List ByteArray), v = .slice A l.length c ∧ l.length ≤ 9223372036854775807 ∧ RowOf scell 1 w w.heap.size A l := by
  rcases open_slice Try.underlying22 h with ⟨h0, _⟩ | ⟨a, len, cap, m, n, D, Pl, hcs, _, hl, hm, hmm, _, hi⟩
  · injection h0 with h0 _
    exact ⟨none, 0, [], h0, by simp, RowOf.nil⟩
  · injection hcs with hcs _
    unfold maxLen at hm
    obtain ⟨b, off, spot⟩ := a
    have hC : Try.prog.cellsOf 9 = 1 := by kernel_rfl
    have key : ∀ i, i < len → ∃ s : ByteArray, w.cell? (({ block := b, off := off, spot := spot } : Addr).add i) = some (.string s) := by
      intro i hil
      obtain ⟨cs', hc, ht'⟩ := hi i (by rw [hmm]; split <;> omega)
      rw [hC, Nat.mul_one] at hc
      obtain ⟨_, hcl, hat⟩ := World.cells?_some hc
      have h0 := hat 0 (by omega)
      obtain ⟨u, rfl⟩ : ∃ u, cs' = [u] := by
        match cs', hcl with
        | [u], _ => exact ⟨u, rfl⟩
      obtain ⟨s, f, _, _⟩ := DataW.trod_string Try.underlying9 ht'
      simp at f
      subst f
      refine ⟨s, ?_⟩
      have e0 : ({ block := b, off := off, spot := spot } : Addr).add i = (({ block := b, off := off, spot := spot } : Addr).add i).add 0 := by simp [Addr.add]
      rw [e0, h0]; rfl
    obtain ⟨l, hll, hlc⟩ := list_of len key
    refine ⟨some ⟨b, off, spot⟩, cap, l, by rw [hll]; exact hcs, by rw [hll]; omega, fun hn => ?_⟩
    have h0 : 0 < len := by rw [← hll]; exact List.length_pos_iff.2 hn
    obtain ⟨s0, hs0⟩ := key 0 h0
    have hspot : spot = none := by simpa [Addr.add] using World.cell?_spot hs0
    subst hspot
    have hlt : b < w.heap.size := by simpa [Addr.add] using World.block_lt_of_cell? w _ hs0
    refine ⟨b, off, rfl, hlt, fun i x hx j u hu => ?_⟩
    match j, hu with
    | 0, hu =>
      injection hu with hu
      subst hu
      have := hlc i x hx
      have hadd : ({ block := b, off := off, spot := none } : Addr).add i = ⟨b, off + i * 1 + 0, none⟩ := by
        unfold Addr.add; split
        · rename_i h0; subst h0; simp
        · simp
      rwa [hadd] at this
theorem open_wrs {fuel : Nat} {v : Value} {x : DataW H × List MemPlace} (h : DataW.trod enc Try.prog w base spare held fuel 23 [v] = some x) :
    ∃ (A : Option Addr) (c : Nat) (p : List Wr), v = .slice A p.length c ∧ p.length ≤ 9223372036854775807 ∧ p.length ≤ c ∧ RowOf wcell 2 w w.heap.size A p := by
  obtain ⟨a, len, cap, rfl⟩ : ∃ a len cap, v = .slice a len cap := by
    rcases open_slice Try.underlying23 h with ⟨h0, _⟩ | ⟨a, len, cap, m, n, D, Pl, hcs, _⟩
    · injection h0 with h0 _; exact ⟨none, 0, 0, h0⟩
    · injection hcs with hcs _; exact ⟨some a, len, cap, hcs⟩
  obtain ⟨xs, h1, h2, h4, h3, _⟩ := open_rowOf (f := wcell) (Q := fun _ => True) Try.underlying23 Try.underlying44 (by kernel_rfl) (by kernel_rfl) (by decide) (fun c hc => by
    obtain ⟨v0, y0, n0, e0, t0⟩ := hc 0 _ rfl
    obtain ⟨v1, y1, n1, e1, t1⟩ := hc 1 _ rfl
    obtain ⟨k0, f0, _, _⟩ := DataW.trod_int Try.underlying3 t0
    obtain ⟨k1, f1, _, _⟩ := DataW.trod_string Try.underlying9 t1
    simp at f0 f1
    subst f0; subst f1
    refine ⟨⟨k0, k1⟩, trivial, fun j u hu => ?_⟩
    match j, hu with
    | 0, hu => simp [wcell] at hu; rw [← hu]; exact e0
    | 1, hu => simp [wcell] at hu; rw [← hu]; exact e1
    | j + 2, hu => simp [wcell] at hu) h
  exact ⟨a, cap, xs, by rw [h1], by rw [h1]; omega, by rw [h1]; omega, h3⟩
theorem open_disk {r : Reach} {b0 : Nat} {v : Value} {d : DataW H} {ps : List MemPlace}
    (hv : Value.okWide Try.prog w r b0 25 v) (h : DataW.Trod enc Try.prog w base spare held 25 v d ps) :
    ∃ (A : Option Addr) (c : Nat) (A' : Option Addr) (c' : Nat) (x : Dk), v = dv A c A' c' x ∧ DiskAt w w.heap.size A c A' c' x := by
  obtain ⟨cs, rfl, hsz, hc⟩ := open_aggs Try.underlying25 (by kernel_rfl) (by kernel_rfl) hv h
  obtain ⟨v0, y0, n0, e0, t0⟩ := hc 0 _ rfl
  obtain ⟨v1, y1, n1, e1, t1⟩ := hc 1 _ rfl
  obtain ⟨v2, y2, n2, e2, t2⟩ := hc 2 _ rfl
  obtain ⟨v3, y3, n3, e3, t3⟩ := hc 3 _ rfl
  obtain ⟨A, c, l, rfl, hl, hr⟩ := open_strs t0
  obtain ⟨A', c', p, rfl, hp, hpc, hr'⟩ := open_wrs t1
  obtain ⟨k2, f2, _, _⟩ := DataW.trod_int Try.underlying3 t2
  obtain ⟨k3, f3, _, _⟩ := DataW.trod_bool Try.underlying4 t3
  simp at f2 f3
  subst f2; subst f3
  refine ⟨A, c, A', c', ⟨l, p, k2, k3⟩, ?_, ⟨hr, hr', hl, hp, hpc⟩⟩
  have hl : cs.size = 4 := hsz
  unfold dv dcells
  congr 1
  apply Array.ext_getElem?
  intro i
  match i with
  | 0 => simpa using e0
  | 1 => simpa using e1
  | 2 => simpa using e2
  | 3 => simpa using e3
  | i + 4 => rw [Array.getElem?_eq_none (by omega), Array.getElem?_eq_none (by simp)]
end

end Go.Proofs.Ytlfiooenbgegkaa
