/- Walks by the logic of calls, and plain laws. -/
import Derived.Test.YthdmcpbmmgmlcaaDoorGScA
import Derived.Test.YthdmcpbmmgmlcaaDoorGh3
import Derived.Test.YthdmcpbmmgmlcaaDoorRows
import Derived.Test.YthdmcpbmmgmlcaaDoorTie
import Derived.Test.YthdmcpbmmgmlcaaDoorCards
import Derived.ProofKit
import Derived.OpenShut
import Derived.ShutString
import Derived.ChangeOld
import Derived.Deep.Slices
import Derived.Deep.Fields
import Derived.ChangeSame
import Derived.LaidMore
import Derived.Lay
import Derived.SevenTiedAt
import Derived.Stop.Joined
namespace Go.Gh
open Go Go.Proofs
set_option maxRecDepth 1000000
set_option maxHeartbeats 2000000
set_option linter.unusedSimpArgs false
set_option linter.unusedVariables false
open Go.Proofs.YthdmcpbmmgmlcaaDoor
open Go.ChangeShapes Go.WideShapes Go.ChangeAt Go.RowKit Go.Deep
theorem own : ownKnob Tryd.prog.godebug = none := by kernel_rfl
theorem laidOut : laidOutB Tryd.prog = true := by kernel_rfl
theorem scV {ν : Nu} {F : Fz} {w : World} (v : Value) (h : v.oneCell' = true) : VR ν F w (.d (.sc v)) v := .d (.sc v h)
section
variable {H : Type} {enc : TypeId × Value → H} {P : Program} {w : World} {base : Nat} {spare : Nat → Bool} {held : Bool}
theorem list_of {α : Type} {p : Nat → α → Prop} : ∀ n : Nat, (∀ i, i < n → ∃ r, p i r) → ∃ rs : List α, rs.length = n ∧ ∀ i r, rs[i]? = some r → p i r := by
  intro n
  induction n with
  | zero => exact fun _ => ⟨[], rfl, fun i r h => by simp at h⟩
  | succ n ih =>
    intro h
    obtain ⟨rs, hl, hp⟩ := ih fun i hi => h i (by omega)
    obtain ⟨r, hr⟩ := h n (by omega)
    refine ⟨rs ++ [r], by simp [hl], fun i q hq => ?_⟩
    rcases Nat.lt_trichotomy i n with hi | hi | hi
    · rw [List.getElem?_append_left (by omega)] at hq
      exact hp i q hq
    · subst hi
      rw [List.getElem?_append_right (by omega), hl] at hq
      simp at hq
      subst hq; exact hr
    · rw [List.getElem?_eq_none (by simp; omega)] at hq
      cases hq
/-- a slice of whatever elements, opened -/
theorem open_dr {α : Type} {df : α} {cs : α → List D} {t e k fuel : Nat} {v : Value} {x : DataW H × List MemPlace} (ht : P.underlying t = some (.slice e)) (hC : P.cellsOf e = k) (hk : 0 < k)
    (one : ∀ (l : List Value) (n : Nat) (y : DataW H × List MemPlace), l.length = k → DataW.trod enc P w base spare held n e l = some y → ∃ z : α, (cs z).length = k ∧ ∀ (j : Nat) g u, (cs z)[j]? = some g → l[j]? = some u → DR (allF w) w g u)
    (h : DataW.trod enc P w base spare held fuel t [v] = some x) : ∃ xs : List α, DR (allF w) w (.row df cs xs) v := by
  rcases open_slice ht h with ⟨h0, _⟩ | ⟨a, len, cap, m, n, Dd, Pl, hcs, _, hl, hm, hmm, _, hi⟩
  · simp at h0
    subst h0
    exact ⟨[], .row df cs [] none 0 0 0 0 (fun _ _ => undef) (fun h => absurd rfl h) (Nat.zero_le _) (fun e he => (by cases he)) (fun i e j x a => (by simp at a)) (fun i e j x a => (by simp at a)) (fun i e j x a => (by simp at a))⟩
  · simp at hcs
    subst hcs
    rcases Nat.eq_zero_or_pos len with hz | hz
    · subst hz
      exact ⟨[], .row df cs [] (some a) cap 0 0 0 (fun _ _ => undef) (fun h => absurd rfl h) (Nat.zero_le _) (fun e he => (by cases he)) (fun i e j x a => (by simp at a)) (fun i e j x a => (by simp at a)) (fun i e j x a => (by simp at a))⟩
    · obtain ⟨b, off, spot⟩ := a
      have hel : ∀ i, i < len → ∃ (l : List Value) (y : DataW H × List MemPlace), l.length = k ∧ (∀ j, j < k → w.cell? ((({ block := b, off := off, spot := spot } : Addr).add (i * k)).add j) = l[j]?) ∧ DataW.trod enc P w base spare held n e l = some y := fun i hil => by
        have him : i < m := by rw [hmm]; split <;> omega
        obtain ⟨cs', hc, ht'⟩ := hi i him
        rw [hC] at hc
        obtain ⟨_, hcl, hat⟩ := World.cells?_some hc
        exact ⟨cs', _, hcl, fun j hj => hat j hj, ht'⟩
      have hspot : spot = none := by
        obtain ⟨l, y, h1, h2, _⟩ := hel 0 hz
        have h3 := h2 0 hk
        rw [List.getElem?_eq_getElem (by omega)] at h3
        simpa [Addr.add] using World.cell?_spot h3
      subst hspot
      have hadd : ∀ i j, w.cell? ((({ block := b, off := off, spot := none } : Addr).add (i * k)).add j) = w.cell? ⟨b, off + i * k + j, none⟩ := fun i j => by
        rw [addr_add, addr_add]
      obtain ⟨xs, hxl, hxs⟩ := list_of (p := fun i (z : α) => (cs z).length = k ∧ ∀ (j : Nat) g, (cs z)[j]? = some g → ∃ u, w.cell? ⟨b, off + i * k + j, none⟩ = some u ∧ DR (allF w) w g u) len fun i hi => by
        obtain ⟨l, y, h1, h2, h3⟩ := hel i hi
        obtain ⟨z, z1, z2⟩ := one l n y h1 h3
        refine ⟨z, z1, fun j g hg => ?_⟩
        have hj : j < k := by rw [← z1]; exact (List.getElem?_eq_some_iff.1 hg).1
        have h4 := h2 j hj
        rw [hadd, List.getElem?_eq_getElem (by omega)] at h4
        exact ⟨_, h4, z2 j g _ hg (List.getElem?_eq_getElem (by omega))⟩
      refine ⟨xs, ?_⟩
      rw [← hxl]
      refine .row df cs xs (some ⟨b, off, none⟩) cap b off k (fun i j => (w.cell? ⟨b, off + i * k + j, none⟩).getD undef) (fun _ => rfl) (by omega) (fun e he => ?_) (fun i e j x a1 a2 => ?_) (fun i e j x a1 a2 => ?_) (fun i e j x a1 a2 => ?_)
      · obtain ⟨i, hi⟩ := List.getElem?_of_mem he; exact (hxs i e hi).1
      · obtain ⟨u, h1, h2⟩ := (hxs i e a1).2 j x a2; rw [h1]; rfl
      · obtain ⟨u, h1, h2⟩ := (hxs i e a1).2 j x a2
        show (w.cell? _).isSome = true
        rw [h1]; rfl
      · obtain ⟨u, h1, h2⟩ := (hxs i e a1).2 j x a2; rw [h1]; exact h2
/-- a struct's cells, each read by itself -/
theorem open_flds {t : TypeId} {fs : Array Field} {fuel : Nat} {l : List Value} {x : DataW H × List MemPlace} (hs : P.underlying t = some (.struct fs)) (hone : oneCellFields P fs = true) (hC : P.cellsOf t = fs.size)
    (h : DataW.trod enc P w base spare held fuel t l = some x) : l.length = fs.size ∧ ∀ (j : Nat) (g : Field), fs[j]? = some g → ∃ (u : Value) (y : DataW H × List MemPlace) (n : Nat), l[j]? = some u ∧ DataW.trod enc P w base spare held n g.type [u] = some y := by
  obtain ⟨ys, n', _, _, hll, hyl, hg⟩ := DataW.trod_struct hs h
  rw [hC] at hll
  refine ⟨hll, fun j g hj => ?_⟩
  obtain ⟨ho, hk⟩ := hone_of hone j g hj
  have hjl : j < fs.size := (Array.getElem?_eq_some_iff.1 hj).1
  have h1 := hg j g hj
  rw [ho, hk] at h1
  have hone' : (l.drop j).take 1 = [l[j]'(by omega)] := by
    rw [List.drop_eq_getElem_cons (by omega)]
    rfl
  rw [hone'] at h1
  have hys : ys[j]? = some (ys[j]'(by omega)) := List.getElem?_eq_getElem (by omega)
  exact ⟨_, _, n', List.getElem?_eq_getElem (by omega), h1.trans hys⟩
end
section
variable {H : Type} {enc : TypeId × Value → H} {w : World} {base : Nat} {spare : Nat → Bool} {held : Bool}
theorem open_strs {n : Nat} {v : Value} {x : DataW H × List MemPlace} (h : DataW.trod enc Tryd.prog w base spare held n 30 [v] = some x) : ∃ xs : List ByteArray, DR (allF w) w (rowSD xs) v :=
  open_dr (cs := strC) (k := 1) Tryd.underlying30 (by kernel_rfl) (by decide) (fun l n y hl ht => by
    obtain ⟨s, rfl, _, _⟩ := DataW.trod_string Tryd.underlying9 ht
    refine ⟨s, rfl, fun j g u hg hu => ?_⟩
    match j, hg, hu with
    | 0, hg, hu => simp [strC] at hg hu; subst hg; subst hu; exact .sc _ rfl
    | j + 1, hg, hu => simp at hu) h
theorem open_words {n : Nat} {v : Value} {x : DataW H × List MemPlace} (h : DataW.trod enc Tryd.prog w base spare held n 49 [v] = some x) : ∃ xs : List (List ByteArray), DR (allF w) w (.row default wdC xs) v :=
  open_dr (cs := wdC) (k := 1) Tryd.underlying49 (by kernel_rfl) (by decide) (fun l n y hl ht => by
    obtain ⟨_, hf⟩ := open_flds Tryd.underlying54 (by kernel_rfl) (by kernel_rfl) ht
    obtain ⟨v0, y0, n0, e0, t0⟩ := hf 0 _ rfl
    obtain ⟨xs, hx⟩ := open_strs t0
    refine ⟨xs, rfl, fun j g u hg hu => ?_⟩
    match j, hg, hu with
    | 0, hg, hu => rw [e0] at hu; cases hu; cases hg; exact hx
    | j + 1, hg, hu => simp [wdC] at hg) h
theorem open_fields {n : Nat} {v : Value} {x : DataW H × List MemPlace} (h : DataW.trod enc Tryd.prog w base spare held n 22 [v] = some x) : ∃ xs : List Fl, DR (allF w) w (.row default flC xs) v :=
  open_dr (cs := flC) (k := 2) Tryd.underlying22 (by kernel_rfl) (by decide) (fun l n y hl ht => by
    obtain ⟨_, hf⟩ := open_flds Tryd.underlying51 (by kernel_rfl) (by kernel_rfl) ht
    obtain ⟨v0, y0, n0, e0, t0⟩ := hf 0 _ rfl
    obtain ⟨v1, y1, n1, e1, t1⟩ := hf 1 _ rfl
    obtain ⟨s, hs, _, _⟩ := DataW.trod_string Tryd.underlying9 t0
    simp at hs; subst hs
    obtain ⟨xs, hx⟩ := open_words t1
    refine ⟨⟨s, xs⟩, rfl, fun j g u hg hu => ?_⟩
    match j, hg, hu with
    | 0, hg, hu => rw [e0] at hu; cases hu; cases hg; exact .sc _ rfl
    | 1, hg, hu => rw [e1] at hu; cases hu; cases hg; exact hx
    | j + 2, hg, hu => simp [flC] at hg) h
theorem okWide_agg {P : Program} {r : Reach} {b0 : Nat} {t : TypeId} {fs : Array Field} {v : Value} (ht : P.underlying t = some (.struct fs)) (h : Value.okWide P w r b0 t v) : ∃ cs, v = .agg cs ∧ cs.size = P.cellsOf t := by
  simp only [Value.okWide, ht] at h
  obtain ⟨cs, h1, h2, _⟩ := h
  exact ⟨cs, h1, h2⟩
theorem open_doc {r : Reach} {b0 : Nat} {v : Value} {d : DataW H} {ps : List MemPlace} (hv : Value.okWide Tryd.prog w r b0 24 v) (h : DataW.Trod enc Tryd.prog w base spare held 24 v d ps) :
    ∃ x : Dc, VR (fun _ => none) (allF w) w (dcG x) v := by
  obtain ⟨cs, rfl, hsz⟩ := okWide_agg Tryd.underlying24 hv
  obtain ⟨fuel, hf⟩ := h
  have hf' : DataW.trod enc Tryd.prog w base spare held fuel 24 cs.toList = some (d, ps) := hf
  obtain ⟨hl, hc⟩ := open_flds Tryd.underlying24 (by kernel_rfl) (by kernel_rfl) hf'
  obtain ⟨v0, y0, n0, e0, t0⟩ := hc 0 _ rfl
  obtain ⟨v1, y1, n1, e1, t1⟩ := hc 1 _ rfl
  obtain ⟨s, hs, _, _⟩ := DataW.trod_string Tryd.underlying9 t0
  simp at hs; subst hs
  obtain ⟨xs, hx⟩ := open_fields t1
  have hat : ∀ (j : Nat) u, cs[j]? = some u → (j = 0 ∧ u = .string s) ∨ (j = 1 ∧ u = v1) := fun j u hu => by
    have hu' : cs.toList[j]? = some u := by simpa using hu
    match j, hu' with
    | 0, hu' => rw [e0] at hu'; cases hu'; exact .inl ⟨rfl, rfl⟩
    | 1, hu' => rw [e1] at hu'; cases hu'; exact .inr ⟨rfl, rfl⟩
    | j + 2, hu' => have h2 := (List.getElem?_eq_some_iff.1 hu').1; rw [hl] at h2; exact absurd h2 (by show ¬ j + 2 < 2; omega)
  refine ⟨⟨s, xs⟩, .agg _ cs (by show cs.size = 2; rw [← Array.length_toList, hl]; rfl) (fun u hu => ?_) (fun j g u hg hu => ?_)⟩
  · obtain ⟨j, hj⟩ := List.getElem?_of_mem hu
    rcases hat j u (by simpa using hj) with ⟨_, rfl⟩ | ⟨_, rfl⟩
    · rfl
    · exact hx.one
  · rcases hat j u hu with ⟨rfl, rfl⟩ | ⟨rfl, rfl⟩
    · cases hg; exact .d (.sc _ rfl)
    · cases hg; exact .d hx
end
def laidL : List (String × DataW Unit) := [("unicode/utf8.acceptRanges", Rows.laid_unicode_utf8_acceptRanges), ("unicode/utf8.first", Rows.laid_unicode_utf8_first)]
theorem laid_met (os : Os) (args : Array Value) : laidMetH Tryd.prog laidL ((World.laidAll Tryd.prog os laidL).forCall (fun _ _ => 0) ⟨#[], args, []⟩).memory := by
  rw [MakeChecks.laidMetH_plain _ _ _ (by kernel_rfl)]; exact laidMet_laidAll _ (by kernel_rfl) (by kernel_rfl)
end Go.Gh
