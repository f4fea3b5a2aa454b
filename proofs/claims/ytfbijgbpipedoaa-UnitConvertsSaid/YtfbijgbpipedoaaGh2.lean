/- A logic of calls without memory (2 of 4). -/
import Derived.Test.YtfbijgbpipedoaaGh1
import Derived.Below
import Derived.Laws.OwnMore
import Derived.Deep.AppendLies
import Derived.Maps.AppendAt
import Derived.OwnWalk
import Derived.Deep.AppendSrc
namespace Go.Gh
open Go Go.RowKit
set_option linter.unusedVariables false

def Ent (g g' : G) : Prop := ∀ (ν : Nu) (F : Fz) (w : World) (v : Value), VR ν F w g v → VR ν F w g' v
theorem Ent.refl (g : G) : Ent g g := fun _ _ _ _ h => h
theorem Ent.junk (g : G) : Ent g .junk := fun _ _ _ _ _ => .junk _

/-! freezing a row -/
def frzF (F : Fz) (r n : Nat) : Fz := fun b o => F b o ∨ (b = r ∧ o < n)
theorem blk_idx {es n i j : Nat} (hi : i < n) (hj : j < es) : i * es + j < n * es := by
  have : (i + 1) * es ≤ n * es := Nat.mul_le_mul_right es hi
  rw [Nat.succ_mul] at this; omega
theorem Rel.freeze {ν : Nu} {F : Fz} {w : World} {H : Hp} (h : Rel ν F w H) {b ty es : Nat} {α : Type} {df : α} {cells : α → List D} {xs : List α} {fz : Nat} (hb : H b = some (.row ty es df cells xs fz)) :
    ∃ F' : Fz, Rel ν F' w (look [(b, some (.row ty es df cells xs xs.length))] H) ∧ Keep F w F' w ∧ Evo ν F w H ν F' w (look [(b, some (.row ty es df cells xs xs.length))] H) ∧
      (∀ r k, ν b = some (r, k) → ∀ o, o < xs.length * es → F' r o) := by
  rcases h.blk b _ hb with ⟨h1, h2, h3⟩ | ⟨r, k, arr, e, h1, h1', h2, h3, h4, h5, h6, h7, h8⟩
  · subst h2; subst h3
    have hk : look [(b, some (.row ty es df cells [] 0))] H = H := funext fun i => by
      simp only [look]
      cases e : Nat.beq i b with
      | false => rfl
      | true => rw [Nat.eq_of_beq_eq_true e]; exact hb.symm
    refine ⟨F, ?_, Keep.refl _ _, ?_, fun r k e => by rw [h1] at e; cases e⟩
    · show Rel ν F w (look [(b, some (.row ty es df cells [] 0))] H); rw [hk]; exact h
    · show Evo ν F w H ν F w (look [(b, some (.row ty es df cells [] 0))] H); rw [hk]; exact Evo.refl _ _ _ _
  · have hsome : ∀ i, (look [(b, some (Blk.row ty es df cells xs xs.length))] H i).isSome = (H i).isSome := fun i => by
      simp only [look]
      cases e : Nat.beq i b with
      | false => rfl
      | true => rw [Nat.eq_of_beq_eq_true e, hb]; rfl
    have hkeep : Keep F w (frzF F r (xs.length * es)) w := ⟨fun _ _ h => .inl h, fun _ _ _ => rfl⟩
    refine ⟨frzF F r (xs.length * es), ⟨fun i j r k k' a b => ?_, fun i bl hi => ?_, fun b' o ho => ?_⟩, hkeep, ⟨hkeep, rfl, rfl, rfl, Nat.le_refl _, fun _ _ _ => rfl, fun r' hr => .inl ?_, fun b' o ho => ?_⟩, fun r' k' e' o ho => ?_⟩
    · rw [hsome] at a b; exact h.inj i j r k k' a b
    · simp only [look] at hi
      cases ei : Nat.beq i b with
      | true =>
        rw [ei] at hi
        simp only [cond_true] at hi
        injection hi with hi; subst hi
        rw [Nat.eq_of_beq_eq_true ei]
        refine .inr ⟨r, k, arr, e, h1, h1', h2, h3, h4, h5, fun i e j x u a b c => (h6 i e j x u a b c).keep hkeep, fun o => ⟨fun ho => ?_, fun ho => .inr ⟨rfl, ho⟩⟩, Nat.le_refl _⟩
        rcases ho with ho | ho
        · have := (h7 o).1 ho
          exact Nat.lt_of_lt_of_le this (Nat.mul_le_mul_right es h8)
        · exact ho.2
      | false =>
        rw [ei] at hi
        simp only [cond_false] at hi
        refine (h.blk i bl hi).keep hkeep (More.refl _) (fun _ _ _ => rfl) (fun r' k' e' o => ⟨fun ho => ?_, fun ho => .inl ho⟩)
        rcases ho with ho | ⟨rfl, ho⟩
        · exact ho
        · have := h.inj i b r' k' k (by rw [hi]; rfl) (by rw [hb]; rfl) e' e
          subst this
          rw [Nat.beq_refl] at ei; cases ei
    · rcases ho with ho | ⟨rfl, ho⟩
      · exact h.old b' o ho
      · have hlt : o < arr.size := by rw [h2]; exact Nat.lt_of_lt_of_le ho (Nat.mul_le_mul_right es h3)
        simp [World.cell?, h1, hlt]
    · obtain ⟨i, k, hi, e⟩ := hr
      rw [hsome] at hi
      exact ⟨i, k, hi, e⟩
    · rcases ho with ho | ⟨rfl, ho⟩
      · exact .inl ho
      · exact .inr (.inl ⟨b, k, by rw [hb]; rfl, e⟩)
    · rw [e] at e'; injection e' with e'; injection e' with e1 e2; subst e1; exact .inr ⟨rfl, ho⟩

/-- a row of the call's own, all of it frozen, is data -/
theorem VR.row_data {ν : Nu} {F : Fz} {w : World} {H : Hp} (h : Rel ν F w H) {b ty es : Nat} {α : Type} {df : α} {cells : α → List D} {xs : List α} (hb : H b = some (.row ty es df cells xs xs.length))
    {v : Value} (hv : VR ν F w (.sl b es 0 xs.length) v) : DR F w (.row df cells xs) v := by
  cases hv with
  | sl _ _ _ _ A c h1 h2 h3 =>
  rcases h.blk b _ hb with ⟨e1, e2, e3⟩ | ⟨r, k, arr, e, k1, k1', k2, k3, k4, k5, k6, k7, k8⟩
  · subst e2
    exact .row df cells [] A c 0 0 0 (fun _ _ => undef) (fun h => absurd rfl h) h3 (fun e h => by cases h) (fun i e j x h => by simp at h) (fun i e j x h => by simp at h) (fun i e j x h => by simp at h)
  · have hlt : ∀ (i : Nat) e (j : Nat) x, xs[i]? = some e → (cells e)[j]? = some x → i * es + j < xs.length * es := fun i e j x a b => by
      have hi := (List.getElem?_eq_some_iff.1 a).1
      have hj := (List.getElem?_eq_some_iff.1 b).1
      rw [k4 e (List.mem_of_getElem? a)] at hj
      exact blk_idx hi hj
    have hsz : xs.length * es ≤ arr.size := by rw [k2]; exact Nat.mul_le_mul_right es k3
    refine .row df cells xs A c r 0 es (fun i j => arr.getD (i * es + j) undef) (fun hne => ?_) h3 k4 (fun i e j x a b => ?_) (fun i e j x a b => ?_) (fun i e j x a b => ?_)
    · obtain ⟨r', k', e', hA, _⟩ := h1 (List.length_pos_iff.2 hne)
      rw [e] at e'; injection e' with e'; injection e' with e1 e2; subst e1
      rw [hA, Nat.zero_mul]
    · have := hlt i e j x a b
      simp only [World.cell?, k1, Nat.zero_add]
      have : i * es + j < arr.size := by omega
      simp [this]
    · rw [Nat.zero_add]; exact (k7 _).2 (hlt i e j x a b)
    · have := hlt i e j x a b
      exact k6 i e j x _ a b (by have : i * es + j < arr.size := by omega
                                 simp [this])

/-! a weaker state -/
def Blk.ren (ρ : Nat → Nat) : Blk → Blk
  | .box cells => .box (G.renL ρ cells)
  | .row ty es df cs xs fz => .row ty es df cs xs fz
  | .mp L => .mp L
def Blk.lt (n : Nat) : Blk → Bool
  | .box cells => G.ltL n cells
  | .row .. => true
  | .mp _ => true
theorem BR.ren {ν : Nu} {F : Fz} {w : World} {ρ : Nat → Nat} {n : Nat} {p : Option (Nat × Nat)} {b : Blk} (h : BR ν F w p (b.ren ρ)) (hl : b.lt n = true) : BR (cutNu n ρ ν) F w p b := by
  cases b with
  | box cells =>
    obtain ⟨r, k, arr, T, e, h1, h2, h3, h4, h5⟩ := h
    simp only [renL_map] at h2 h4
    simp only [Blk.lt, ltL_all, List.all_eq_true] at hl
    refine ⟨r, k, arr, T, e, h1, by rw [h2]; simp, h3, fun j g u a b => ?_, h5⟩
    exact (h4 j (g.ren ρ) u (by rw [List.getElem?_map, a]; rfl) b).ren g rfl (hl g (List.mem_of_getElem? a))
  | row ty es df cs xs fz => exact h
  | mp L => exact h

def wkT (ρ : Nat → Nat) (n : Nat) (σ : St) : List (Nat × G) → Prop
  | [] => True
  | (t, g) :: l => ((∃ g0, σ.get t = g0 ∧ Ent g0 (g.ren ρ)) ∧ g.lt n = true) ∧ wkT ρ n σ l
def wkH (ρ : Nat → Nat) (n : Nat) (σ : St) : List (Nat × Option Blk) → Prop
  | [] => True
  | (i, some b) :: l => (σ.H (ρ i) = some (b.ren ρ) ∧ b.lt n = true ∧ i < n) ∧ wkH ρ n σ l
  | (i, none) :: l => wkH ρ n σ l
theorem wkT_get {ρ : Nat → Nat} {n : Nat} {σ : St} {ν : Nu} {F : Fz} {w : World} {v : Value} {t : Nat} (hv : VR ν F w (σ.get t) v) : ∀ l, wkT ρ n σ l → VR (cutNu n ρ ν) F w (getG l t) v := by
  intro l
  induction l with
  | nil => intro _; exact .junk _
  | cons p l ih =>
    obtain ⟨k, g⟩ := p
    intro h
    simp only [getG]
    cases e : Nat.beq t k with
    | false => exact ih h.2
    | true =>
      obtain ⟨⟨⟨g0, h1, h2⟩, h3⟩, _⟩ := h
      rw [Nat.eq_of_beq_eq_true e, h1] at hv
      exact (h2 _ _ _ _ hv).ren g rfl h3
theorem wkH_get {ρ : Nat → Nat} {n : Nat} {σ : St} {i : Nat} {b : Blk} : ∀ l, wkH ρ n σ l → look l noHp i = some b → σ.H (ρ i) = some (b.ren ρ) ∧ b.lt n = true ∧ i < n := by
  intro l
  induction l with
  | nil => intro _ h; cases h
  | cons p l ih =>
    obtain ⟨k, ob⟩ := p
    intro h hb
    simp only [look] at hb
    cases e : Nat.beq i k with
    | false =>
      rw [e] at hb
      cases ob with
      | none => exact ih h hb
      | some b' => exact ih h.2 hb
    | true =>
      rw [e] at hb
      simp only [cond_true] at hb
      subst hb
      rw [Nat.eq_of_beq_eq_true e]
      exact h.1
structure Weak (p : Nat) (ρ : Nat → Nat) (σ τ : St) : Prop where
  tmps : wkT ρ τ.next σ τ.tmps
  heap : wkH ρ τ.next σ τ.hp
  one : ∀ i j, (τ.H i).isSome = true → (τ.H j).isSome = true → ρ i = ρ j → i = j
  par : ∀ i, i < p → ρ i = i
  pin : p ≤ τ.next
theorem gw_weak {P : Program} {nt p : Nat} {c : Code} {σ τ : St} {Q : Exit → St → Prop} (ρ : Nat → Nat) (hw : Weak p ρ σ τ) (h : GW P nt p c τ Q) : GW P nt p c σ Q := by
  intro ν F a w hr
  have hH : ∀ i b, τ.H i = some b → σ.H (ρ i) = some (b.ren ρ) ∧ b.lt τ.next = true ∧ i < τ.next := fun i b hb => wkH_get τ.hp hw.heap hb
  have hk : ∀ i, i < τ.next → cutNu τ.next ρ ν i = ν (ρ i) := fun i hi => if_pos hi
  refine GPost.from h (ν1 := cutNu τ.next ρ ν) (F1 := F) (w1 := w) ⟨hw.pin, fun t => wkT_get (hr.vals t) τ.tmps hw.tmps, ⟨fun i j r k k' hi hj e e' => ?_, fun i b hb => ?_, hr.rel.old⟩, hr.defers, fun i hi => if_neg (by omega), hr.size, fun i hi => ?_⟩
    ⟨Keep.refl _ _, rfl, rfl, rfl, Nat.le_refl _, fun _ _ _ => rfl, fun r hm => .inl ?_, fun _ _ h => .inl h⟩ (fun i hi => ?_) (fun _ _ _ h => h)
  · obtain ⟨b, hb⟩ := Option.isSome_iff_exists.1 hi
    obtain ⟨b', hb'⟩ := Option.isSome_iff_exists.1 hj
    obtain ⟨a1, _, a3⟩ := hH i b hb
    obtain ⟨c1, _, c3⟩ := hH j b' hb'
    rw [hk i a3] at e
    rw [hk j c3] at e'
    exact hw.one i j hi hj (hr.rel.inj _ _ r k k' (by rw [a1]; rfl) (by rw [c1]; rfl) e e')
  · obtain ⟨a1, a2, a3⟩ := hH i b hb
    rw [hk i a3]
    exact (hr.rel.blk _ _ a1).ren a2
  · cases hb : τ.H i with
    | none => rfl
    | some b => have := (hH i b hb).2.2; omega
  · obtain ⟨i, k, hi, e⟩ := hm
    obtain ⟨b, hb⟩ := Option.isSome_iff_exists.1 hi
    obtain ⟨a1, _, a3⟩ := hH i b hb
    rw [hk i a3] at e
    exact ⟨ρ i, k, by rw [a1]; rfl, e⟩
  · have := hw.pin
    rw [hk i (by omega), hw.par i hi]
end Go.Gh

namespace Go.Gh
open Go Go.RowKit
set_option linter.unusedVariables false

/-! the table of types -/
structure TyE where
  desc : TypeDesc
  size : Nat
  bytes : Nat
  zero : Value
abbrev Tab := List (Nat × TyE)
def tyAt : Tab → Nat → Option TyE
  | [], _ => none
  | (k, e) :: l, t => bif Nat.beq t k then some e else tyAt l t
def TyOK (P : Program) (t : Nat) (e : TyE) : Prop := P.underlying t = some e.desc ∧ (P.info? t).map (fun i => (i.size, i.bytes, i.zero)) = some (e.size, e.bytes, some e.zero)
def TabOK (P : Program) (T : Tab) : Prop := ∀ t e, tyAt T t = some e → TyOK P t e
theorem TabOK.nil (P : Program) : TabOK P [] := fun _ _ h => by cases h
theorem TabOK.cons {P : Program} {T : Tab} {t : Nat} {e : TyE} (h : TyOK P t e) (k : TabOK P T) : TabOK P ((t, e) :: T) := fun t' e' h' => by
  simp only [tyAt] at h'
  cases hb : Nat.beq t' t with
  | true => rw [hb] at h'; simp only [cond_true] at h'; injection h' with h'; subst h'; rw [Nat.eq_of_beq_eq_true hb]; exact h
  | false => rw [hb] at h'; exact k t' e' h'
section ty
variable {P : Program} {t : Nat} {e : TyE} (h : TyOK P t e) (w : World)
include h
theorem TyOK.under : (underlying t).run P w = .ok e.desc w := run_underlying h.1 w
theorem TyOK.info : ∃ i, P.info? t = some i ∧ i.size = e.size ∧ i.bytes = e.bytes ∧ i.zero = some e.zero := by
  have := h.2
  cases hi : P.info? t with
  | none => rw [hi] at this; cases this
  | some i =>
    rw [hi] at this
    simp only [Option.map_some] at this
    injection this with this
    injection this with a b
    injection b with b c
    exact ⟨i, rfl, a, b, c⟩
theorem TyOK.tinfo : ∃ i, (typeInfo t).run P w = .ok i w ∧ i.size = e.size ∧ i.bytes = e.bytes ∧ i.zero = some e.zero := by
  obtain ⟨i, h1, h2⟩ := h.info
  exact ⟨i, by simp [typeInfo, h1], h2⟩
theorem TyOK.sizeOf : (sizeOf t).run P w = .ok e.size w := by
  obtain ⟨i, h1, h2, _⟩ := h.tinfo w
  unfold Go.sizeOf
  simp only [Sem.run_bind, h1, Result.andThen_ok, Sem.run_pure, h2]
theorem TyOK.zeroV : (zeroValue t).run P w = .ok e.zero w := by
  obtain ⟨i, h1, _, _, h4⟩ := h.tinfo w
  unfold Go.zeroValue
  simp only [Sem.run_bind, h1, Result.andThen_ok, h4, Sem.run_pure]
end ty
def aggD : TypeDesc → Bool
  | .struct _ => true
  | .array _ _ => true
  | _ => false
theorem TyOK.isAgg {P : Program} {t : Nat} {e : TyE} (h : TyOK P t e) (w : World) : (isAgg t).run P w = .ok (aggD e.desc) w := by
  unfold Go.isAgg
  simp only [Sem.run_bind, h.under w, Result.andThen_ok]
  cases e.desc <;> rfl

/-! memory: a new block, a block written -/
def addNu (ν : Nu) (i r k : Nat) : Nu := fun j => bif Nat.beq j i then some (r, k) else ν j
theorem addNu_same (ν : Nu) (i r k : Nat) : addNu ν i r k i = some (r, k) := by simp only [addNu, Nat.beq_refl, cond_true]
theorem addNu_other (ν : Nu) {i r k j : Nat} (h : j ≠ i) : addNu ν i r k j = ν j := by
  have : Nat.beq j i = false := by
    cases e : Nat.beq j i with
    | false => rfl
    | true => exact absurd (Nat.eq_of_beq_eq_true e) h
  simp only [addNu, this, cond_false]
theorem More.add {ν : Nu} {i r k : Nat} (h : ν i = none) : More ν (addNu ν i r k) := fun j p hj => by
  by_cases e : j = i
  · subst e; rw [h] at hj; cases hj
  · rw [addNu_other ν e]; exact hj
theorem look1_same {b : Option Blk} {H : Hp} {i : Nat} : look [(i, b)] H i = b := by simp only [look, Nat.beq_refl, cond_true]
theorem look1_other {b : Option Blk} {H : Hp} {i j : Nat} (h : j ≠ i) : look [(i, b)] H j = H j := look_other _ _ _ (by simpa using h)
theorem keep_alloc {F : Fz} {w : World} (h : ∀ b o, F b o → b < w.heap.size) (o : Obj) : Keep F w F (w.alloc o) :=
  ⟨fun _ _ h => h, fun b o' hb => World.cell?_alloc_lt w o ⟨b, o', none⟩ (h b o' hb)⟩
theorem Rel.add {ν : Nu} {F : Fz} {w : World} {H : Hp} (h : Rel ν F w H) {i k : Nat} (hi : ν i = none) (hH : H i = none) (o : Obj) {b : Blk} (hb : BR (addNu ν i w.heap.size k) F (w.alloc o) (some (w.heap.size, k)) b) :
    Rel (addNu ν i w.heap.size k) F (w.alloc o) (look [(i, some b)] H) ∧ Evo ν F w H (addNu ν i w.heap.size k) F (w.alloc o) (look [(i, some b)] H) := by
  have hk : Keep F w F (w.alloc o) := keep_alloc (fun b o hb => h.old_lt hb) o
  have hlt : ∀ j r k' , (H j).isSome = true → ν j = some (r, k') → r < w.heap.size := fun j r k' a b => h.mine_lt ⟨j, k', a, b⟩
  refine ⟨⟨fun x y r k1 k2 hx hy ex ey => ?_, fun x bl hx => ?_, fun b' o' ho => ?_⟩, ⟨hk, rfl, rfl, rfl, by simp, fun r hr _ => Below.heap_alloc w o r hr, fun r hm => ?_, fun _ _ h => .inl h⟩⟩
  · by_cases e1 : x = i <;> by_cases e2 : y = i
    · rw [e1, e2]
    · subst e1
      rw [addNu_same] at ex; rw [addNu_other ν e2] at ey; rw [look1_other e2] at hy
      injection ex with ex; injection ex with ex1 ex2
      have := hlt y r k2 hy ey; omega
    · subst e2
      rw [addNu_same] at ey; rw [addNu_other ν e1] at ex; rw [look1_other e1] at hx
      injection ey with ey; injection ey with ey1 ey2
      have := hlt x r k1 hx ex; omega
    · rw [addNu_other ν e1] at ex; rw [addNu_other ν e2] at ey; rw [look1_other e1] at hx; rw [look1_other e2] at hy
      exact h.inj x y r k1 k2 hx hy ex ey
  · by_cases e1 : x = i
    · subst e1
      rw [look1_same] at hx; injection hx with hx; subst hx
      rw [addNu_same]; exact hb
    · rw [look1_other e1] at hx; rw [addNu_other ν e1]
      refine (h.blk x bl hx).keep hk (More.add hi) (fun r k' e => Below.heap_alloc w o r (hlt x r k' (by rw [hx]; rfl) e)) (fun _ _ _ _ => Iff.rfl)
  · have := h.old b' o' ho
    rw [← World.cell?_alloc_lt w o ⟨b', o', none⟩ (h.old_lt ho)] at this; exact this
  · obtain ⟨x, k', hx, ex⟩ := hm
    by_cases e1 : x = i
    · subst e1; rw [addNu_same] at ex; injection ex with ex; injection ex with ex1 ex2; right; omega
    · rw [look1_other e1] at hx; rw [addNu_other ν e1] at ex; exact .inl ⟨x, k', hx, ex⟩
theorem Rel.put {ν : Nu} {F : Fz} {w w' : World} {H : Hp} (h : Rel ν F w H) {i r k : Nat} {b0 b : Blk} (hH : H i = some b0) (hi : ν i = some (r, k)) (ho : ∀ r', r' ≠ r → w'.heap[r']? = w.heap[r']?)
    (hs : w'.heap.size = w.heap.size) (hF : ∀ o, F r o → w'.cell? ⟨r, o, none⟩ = w.cell? ⟨r, o, none⟩) (e1 : w'.os = w.os) (e2 : w'.tape = w.tape) (e3 : w'.output = w.output) (hb : BR ν F w' (some (r, k)) b) :
    Rel ν F w' (look [(i, some b)] H) ∧ Evo ν F w H ν F w' (look [(i, some b)] H) := by
  have hcell : ∀ b' o', F b' o' → w'.cell? ⟨b', o', none⟩ = w.cell? ⟨b', o', none⟩ := fun b' o' hb' => by
    by_cases e : b' = r
    · subst e; exact hF o' hb'
    · simp only [World.cell?, ho b' e]
  have hk : Keep F w F w' := ⟨fun _ _ h => h, hcell⟩
  have hsome : ∀ x, (look [(i, some b)] H x).isSome = (H x).isSome := fun x => by
    by_cases e : x = i
    · subst e; rw [look1_same, hH]; rfl
    · rw [look1_other e]
  refine ⟨⟨fun x y r k1 k2 hx hy ex ey => ?_, fun x bl hx => ?_, fun b' o' ho' => ?_⟩, ⟨hk, e1, e2, e3, by omega, fun r' hr hm => ho r' fun e => hm ⟨i, k, by rw [hH]; rfl, by rw [hi, e]⟩, fun r' hm => .inl ?_, fun _ _ h => .inl h⟩⟩
  · rw [hsome] at hx hy; exact h.inj x y r k1 k2 hx hy ex ey
  · by_cases e : x = i
    · subst e; rw [look1_same] at hx; injection hx with hx; subst hx; rw [hi]; exact hb
    · rw [look1_other e] at hx
      refine (h.blk x bl hx).keep hk (More.refl _) (fun r' k' ex => ho r' fun er => e ?_) (fun _ _ _ _ => Iff.rfl)
      subst er
      exact h.inj x i r' k' k (by rw [hx]; rfl) (by rw [hH]; rfl) ex hi
  · rw [hcell b' o' ho']; exact h.old b' o' ho'
  · obtain ⟨x, k', hx, ex⟩ := hm
    rw [hsome] at hx; exact ⟨x, k', hx, ex⟩

/-! cells of values -/
def G.one : G → Bool
  | .d _ => true
  | .ptr .. => true
  | .sl .. => true
  | .ep _ => true
  | .fn .. => true
  | .iface .. => true
  | .mp _ => true
  | _ => false
theorem DR.one {F : Fz} {w : World} {x : D} {v : Value} (h : DR F w x v) : v.oneCell' = true := by cases h <;> first | assumption | rfl
theorem VR.one {ν : Nu} {F : Fz} {w : World} {g : G} {v : Value} (h : VR ν F w g v) (hg : g.one = true) : v.oneCell' = true := by
  cases h <;> first | (cases hg; done) | rfl | skip
  rename_i h; exact h.one
def cellsG : G → Option (List G)
  | .agg cs => some cs
  | g => bif g.one then some [g] else none
/-- these cells hold these values -/
structure CR (ν : Nu) (F : Fz) (w : World) (gs : List G) (vs : List Value) : Prop where
  len : vs.length = gs.length
  one : ∀ u, u ∈ vs → u.oneCell' = true
  val : ∀ (j : Nat) g u, gs[j]? = some g → vs[j]? = some u → VR ν F w g u
theorem CR.keep {ν ν' : Nu} {F F' : Fz} {w w' : World} {gs : List G} {vs : List Value} (h : CR ν F w gs vs) (k : Keep F w F' w') (m : More ν ν') : CR ν' F' w' gs vs :=
  ⟨h.len, h.one, fun j g u a b => (h.val j g u a b).keep k m⟩
theorem VR.cells {ν : Nu} {F : Fz} {w : World} {g : G} {v : Value} {gs : List G} (h : VR ν F w g v) (hg : cellsG g = some gs) : CR ν F w gs v.cells.toList := by
  have single : ∀ g' v', VR ν F w g' v' → g'.one = true → gs = [g'] → v'.cells = #[v'] → CR ν F w gs v'.cells.toList := fun g' v' h' h1 h2 h3 => by
    rw [h3]; subst h2
    exact ⟨rfl, fun u hu => by simp at hu; subst hu; exact h'.one h1, fun j g u a b => by
      match j with
      | 0 => simp at a b; subst a; subst b; exact h'
      | j + 1 => simp at a⟩
  cases h with
  | agg cells cs h1 hc k =>
    simp only [cellsG] at hg; injection hg with hg; subst hg
    exact ⟨by simpa [Value.cells] using h1, hc, fun j g u a b => k j g u a (by simpa [Value.cells] using b)⟩
  | d h =>
    have := h.one
    refine single _ _ (.d h) rfl ?_ ?_
    · simp only [cellsG, G.one, cond_true] at hg; injection hg with hg; exact hg.symm
    · rename_i x
      cases v <;> first | rfl | (simp [Value.oneCell'] at this)
  | ptr b es i f r k h => exact single _ _ (.ptr b es i f r k h) rfl (by simp only [cellsG, G.one, cond_true] at hg; injection hg with hg; exact hg.symm) rfl
  | sl b es i n A c h1 h2 h3 => exact single _ _ (.sl b es i n A c h1 h2 h3) rfl (by simp only [cellsG, G.one, cond_true] at hg; injection hg with hg; exact hg.symm) rfl
  | ep cells b off val hw hF h => exact single _ _ (.ep cells b off val hw hF h) rfl (by simp only [cellsG, G.one, cond_true] at hg; injection hg with hg; exact hg.symm) rfl
  | fn f first captured fs cs h1 h2 k1 k2 => exact single _ _ (.fn f first captured fs cs h1 h2 k1 k2) rfl (by simp only [cellsG, G.one, cond_true] at hg; injection hg with hg; exact hg.symm) rfl
  | iface t g u h => exact single _ _ (.iface t g u h) rfl (by simp only [cellsG, G.one, cond_true] at hg; injection hg with hg; exact hg.symm) rfl
  | mp b r k h => exact single _ _ (.mp b r k h) rfl (by simp only [cellsG, G.one, cond_true] at hg; injection hg with hg; exact hg.symm) rfl
  | tup vs us h1 k => simp only [cellsG, G.one, cond_false] at hg; cases hg
  | opt c g u h h0 => simp only [cellsG, G.one, cond_false] at hg; cases hg
  | junk u => simp only [cellsG, G.one, cond_false] at hg; cases hg
theorem CR.agg {ν : Nu} {F : Fz} {w : World} {gs : List G} {vs : List Value} (h : CR ν F w gs vs) : VR ν F w (.agg gs) (.agg vs.toArray) :=
  .agg _ _ (by simp [h.len]) (by simpa using h.one) (fun j g u a b => h.val j g u a (by simpa using b))
theorem CR.box {ν : Nu} {F : Fz} {w : World} {gs : List G} {vs : List Value} (h : CR ν F w gs vs) {r k : Nat} {T : TypeId} (hw : w.heap[r]? = some (.cells vs.toArray T (0, 0))) (hF : ∀ o, ¬ F r o) : BR ν F w (some (r, k)) (.box gs) :=
  ⟨r, k, vs.toArray, T, rfl, hw, by simp [h.len], by simpa using h.one, fun j g u a b => h.val j g u a (by simpa using b), hF⟩
theorem CR.take {ν : Nu} {F : Fz} {w : World} {gs : List G} {vs : List Value} (h : CR ν F w gs vs) (n : Nat) : CR ν F w (gs.take n) (vs.take n) :=
  ⟨by simp [h.len], fun u hu => h.one u (List.mem_of_mem_take hu), fun j g u a b => by
    rw [List.getElem?_take] at a b
    split at a
    · rename_i hj; rw [if_pos hj] at b; exact h.val j g u a b
    · cases a⟩
theorem CR.drop {ν : Nu} {F : Fz} {w : World} {gs : List G} {vs : List Value} (h : CR ν F w gs vs) (n : Nat) : CR ν F w (gs.drop n) (vs.drop n) :=
  ⟨by simp [h.len], fun u hu => h.one u (List.mem_of_mem_drop hu), fun j g u a b => by
    rw [List.getElem?_drop] at a b; exact h.val _ g u a b⟩
theorem CR.append {ν : Nu} {F : Fz} {w : World} {gs gs' : List G} {vs vs' : List Value} (h : CR ν F w gs vs) (h' : CR ν F w gs' vs') : CR ν F w (gs ++ gs') (vs ++ vs') :=
  ⟨by simp [h.len, h'.len], fun u hu => (List.mem_append.1 hu).elim (h.one u) (h'.one u), fun j g u a b => by
    rcases Nat.lt_or_ge j gs.length with hj | hj
    · rw [List.getElem?_append_left hj] at a; rw [List.getElem?_append_left (by rw [h.len]; exact hj)] at b; exact h.val j g u a b
    · rw [List.getElem?_append_right hj] at a; rw [List.getElem?_append_right (by rw [h.len]; exact hj), h.len] at b; exact h'.val _ g u a b⟩
theorem CR.at_ {ν : Nu} {F : Fz} {w : World} {gs : List G} {vs : List Value} (h : CR ν F w gs vs) {j : Nat} {g : G} (hg : gs[j]? = some g) : ∃ u, vs[j]? = some u ∧ VR ν F w g u := by
  have hj : j < vs.length := by rw [h.len]; exact (List.getElem?_eq_some_iff.1 hg).1
  exact ⟨vs[j], List.getElem?_eq_getElem hj, h.val j g _ hg (List.getElem?_eq_getElem hj)⟩
theorem BR.box_cells {ν : Nu} {F : Fz} {w : World} {p : Option (Nat × Nat)} {gs : List G} (h : BR ν F w p (.box gs)) : ∃ r k vs T, p = some (r, k) ∧ w.heap[r]? = some (.cells vs T (0, 0)) ∧ CR ν F w gs vs.toList ∧ ∀ o, ¬ F r o := by
  obtain ⟨r, k, arr, T, e, h1, h2, h3, h4, h5⟩ := h
  exact ⟨r, k, arr, T, e, h1, ⟨by simpa using h2, h3, fun j g u a b => h4 j g u a (by simpa using b)⟩, h5⟩

/-! operations in general -/
theorem gop_val {P : Program} {o : Oper} {ρ : Operand → G} {H : Hp} {E : Eff}
    (h : ∀ (ν : Nu) (F : Fz) (w : World) (a : Act), (∀ x, x ∈ o.op.operands.toList → VR ν F w (ρ x) (a.eval x)) → Rel ν F w H → (∀ i, i ∈ E.new → ν i = none) →
      ∃ (v : Value) (w' : World) (ν' : Nu) (F' : Fz), (execOp a.eval o).run P w = .ok (.value v) w' ∧ VR ν' F' w' E.g v ∧ Rel ν' F' w' (look E.upd H) ∧ More ν ν' ∧ (∀ i, ν' i ≠ ν i → i ∈ E.new) ∧ Evo ν F w H ν' F' w' (look E.upd H)) : GOp P o ρ H E := by
  intro ν F w a hv hr hn
  obtain ⟨v, w', ν', F', h1, h2, h3, h4, h5, h6⟩ := h ν F w a hv hr hn
  unfold Oper.wp
  rw [h1]
  exact ⟨ν', F', v, rfl, h2, h3, h4, h5, h6⟩
theorem lop_pure {P : Program} {o : Oper} {ρ : Operand → G} {H : Hp} {g : G} {fp : List Nat}
    (h : ∀ H' : Hp, (∀ i, i ∈ fp → H' i = H i) → ∀ (ν : Nu) (F : Fz) (w : World) (a : Act), (∀ x, x ∈ o.op.operands.toList → VR ν F w (ρ x) (a.eval x)) → Rel ν F w H' →
      ∃ v, (execOp a.eval o).run P w = .ok (.value v) w ∧ VR ν F w g v) : LOp P o ρ H { g := g, fp := fp } := by
  intro H' hf _
  refine gop_val fun ν F w a hv hr _ => ?_
  obtain ⟨v, h1, h2⟩ := h H' hf ν F w a hv hr
  exact ⟨v, w, ν, F, h1, h2, hr, More.refl _, fun i hi => absurd rfl hi, Evo.refl _ _ _ _⟩
theorem gop_skip {P : Program} {o : Oper} {ρ : Operand → G} {H : Hp} {upd : List (Nat × Option Blk)} {fp : List Nat}
    (h : ∀ (ν : Nu) (F : Fz) (w : World) (a : Act), (∀ x, x ∈ o.op.operands.toList → VR ν F w (ρ x) (a.eval x)) → Rel ν F w H →
      ∃ (w' : World), (execOp a.eval o).run P w = .ok .skip w' ∧ Rel ν F w' (look upd H) ∧ Evo ν F w H ν F w' (look upd H)) : GOp P o ρ H { g := .junk, upd := upd, fp := fp } := by
  intro ν F w a hv hr hn
  obtain ⟨w', h1, h2, h3⟩ := h ν F w a hv hr
  unfold Oper.wp
  rw [h1]
  exact ⟨ν, F, undef, rfl, .junk _, h2, More.refl _, fun i hi => absurd rfl hi, h3⟩
end Go.Gh

namespace Go.Gh
open Go Go.RowKit
set_option linter.unusedVariables false

abbrev inR : IntKind → Int → Prop
  | .i8, n => -128 ≤ n ∧ n ≤ 127
  | .i16, n => -32768 ≤ n ∧ n ≤ 32767
  | .i32, n => -2147483648 ≤ n ∧ n ≤ 2147483647
  | .i64, n => -9223372036854775808 ≤ n ∧ n ≤ 9223372036854775807
  | .u8, n => 0 ≤ n ∧ n ≤ 255
  | .u16, n => 0 ≤ n ∧ n ≤ 65535
  | .u32, n => 0 ≤ n ∧ n ≤ 4294967295
  | .u64, n => 0 ≤ n ∧ n ≤ 18446744073709551615
theorem wrap_in {k : IntKind} {n : Int} (h : inR k n) : k.wrap n = n := by
  cases k
  · exact IntWalk.i8_in n h
  · exact IntWalk.i16_in n h
  · exact IntWalk.i32_in n h
  · exact IntWalk.i64_in n h
  · exact IntWalk.u8_in n h
  · exact IntWalk.u16_in n h
  · exact IntWalk.u32_in n h
  · exact IntWalk.u64_in n h

theorem str_dec (x y : ByteArray) : (x.toList == y.toList) = decide (x = y) := by
  by_cases h : x = y
  · subst h; simp
  · rw [decide_eq_false h]
    refine beq_eq_false_iff_ne.2 fun e => h ?_
    rw [ByteArray.toList_eq, ByteArray.toList_eq] at e
    exact ByteArray.ext (Array.toList_inj.1 e)
def strLt (x y : ByteArray) : Bool := Op.bytesLess x.toList y.toList
def kindEq : IntKind → IntKind → Bool
  | .i8, .i8 => true
  | .i16, .i16 => true
  | .i32, .i32 => true
  | .i64, .i64 => true
  | .u8, .u8 => true
  | .u16, .u16 => true
  | .u32, .u32 => true
  | .u64, .u64 => true
  | _, _ => false
theorem kindEq_spec {k k' : IntKind} (h : kindEq k k' = true) : k = k' := by cases k <;> cases k' <;> first | rfl | cases h

def obP : Option Prop → Prop
  | none => True
  | some p => p
def arithG (wr : Bool) (k : IntKind) (r : Int) : Option Prop × Value :=
  match wr with
  | true => (none, .int k (k.wrap r))
  | false => (some (inR k r), .int k r)
def intG (wr : Bool) (op : BinOp) (k : IntKind) (a b : Int) : Option (Option Prop × Value) :=
  match op with
  | .add => some (arithG wr k (a + b))
  | .sub => some (arithG wr k (a - b))
  | .mul => some (arithG wr k (a * b))
  | .quo => match wr with
    | true => some (some (b ≠ 0), .int k (k.wrap (a.tdiv b)))
    | false => some (some (0 ≤ a ∧ 1 ≤ b ∧ inR k (a / b)), .int k (a / b))
  | .rem => match wr with
    | true => some (some (b ≠ 0), .int k (a.tmod b))
    | false => some (some (0 ≤ a ∧ 1 ≤ b), .int k (a % b))
  | .eql => some (none, .bool (decide (a = b)))
  | .neq => some (none, .bool (!decide (a = b)))
  | .lss => some (none, .bool (decide (a < b)))
  | .leq => some (none, .bool (decide (a ≤ b)))
  | .gtr => some (none, .bool (decide (b < a)))
  | .geq => some (none, .bool (decide (b ≤ a)))
  | _ => none
def strG (op : BinOp) (x y : ByteArray) : Option (Option Prop × Value) :=
  match op with
  | .add => some (some (x.size + y.size ≤ 9223372036854775807), .string (x ++ y))
  | .eql => some (none, .bool (decide (x = y)))
  | .neq => some (none, .bool (!decide (x = y)))
  | .lss => some (none, .bool (strLt x y))
  | .leq => some (none, .bool (strLt x y || decide (x = y)))
  | .gtr => some (none, .bool (!(strLt x y || decide (x = y))))
  | .geq => some (none, .bool (!strLt x y))
  | _ => none
def binG (wr : Bool) (op : BinOp) (t : Option TyE) (x y : Value) : Option (Option Prop × Value) :=
  match x, y with
  | .int k a, .int k' b => bif kindEq k k' then intG wr op k a b else none
  | .string a, .string b => strG op a b
  | .bool a, .bool b => match t, op with
    | some { desc := .bool, .. }, .eql => some (none, .bool (a == b))
    | some { desc := .bool, .. }, .neq => some (none, .bool (!(a == b)))
    | _, _ => none
  | _, _ => none

theorem int_beq (a b : Int) : (a == b) = decide (a = b) := by by_cases h : a = b <;> simp [h]
theorem run_intG {P : Program} {wr : Bool} {op : BinOp} {k : IntKind} {a b : Int} {pr : Option Prop} {v : Value} (h : intG wr op k a b = some (pr, v)) (hp : obP pr) (t : TypeId) (w : World) : (binOp op t (.int k a) (.int k b)).run P w = .ok v w := by
  have key : ∀ r, arithG wr k r = (pr, v) → v = .int k (k.wrap r) := fun r e => by
    cases wr <;> simp only [arithG, Prod.mk.injEq] at e <;> obtain ⟨rfl, rfl⟩ := e
    · rw [wrap_in hp]
    · rfl
  cases op <;> simp only [intG, Option.some.injEq, reduceCtorEq] at h <;> first
    | (have := key _ h; subst this; simp [binOp, Op.intArith]; done)
    | (obtain ⟨rfl, rfl⟩ := Prod.mk.inj h; simp [binOp, Op.intCmp]; done)
    | skip
  · cases wr <;> simp only [Option.some.injEq, Prod.mk.injEq] at h <;> obtain ⟨rfl, rfl⟩ := h
    · obtain ⟨h1, h2, h3⟩ := hp
      have e : a.tdiv b = a / b := Int.tdiv_eq_ediv_of_nonneg h1
      have hb : b ≠ 0 := by omega
      simp [binOp, Op.intDiv, hb, e, wrap_in h3]
    · have hp : b ≠ 0 := hp
      simp [binOp, Op.intDiv, hp]
  · cases wr <;> simp only [Option.some.injEq, Prod.mk.injEq] at h <;> obtain ⟨rfl, rfl⟩ := h
    · obtain ⟨h1, h2⟩ := hp
      have e : a.tmod b = a % b := Int.tmod_eq_emod_of_nonneg h1
      have hb : b ≠ 0 := by omega
      simp [binOp, Op.intDiv, hb, e]
    · have hp : b ≠ 0 := hp
      simp [binOp, Op.intDiv, hp]
  all_goals (obtain ⟨rfl, rfl⟩ := Prod.mk.inj h; simp [binOp, Op.intCmp, bne]; try exact int_beq a b)
theorem run_strG {P : Program} {op : BinOp} {a b : ByteArray} {pr : Option Prop} {v : Value} (h : strG op a b = some (pr, v)) (hp : obP pr) (t : TypeId) (w : World) : (binOp op t (.string a) (.string b)).run P w = .ok v w := by
  cases op <;> simp only [strG, Option.some.injEq, reduceCtorEq] at h <;> obtain ⟨rfl, rfl⟩ := Prod.mk.inj h <;> simp only [binOp, Op.stringOp] <;> first | rfl | (rw [str_dec]; rfl) | skip
  have hp : a.size + b.size ≤ 9223372036854775807 := hp
  have : ¬ (((a.size + b.size : Nat) : Int) > IntKind.i64.max) := by
    have : IntKind.i64.max = 9223372036854775807 := rfl
    omega
  rw [if_neg this]; rfl
theorem guard_int {P : Program} {op : BinOp} {t : TypeId} {xo yo : Operand} {k : IntKind} {a : Int} {y : Value} (w : World) : (eqGuard op t xo yo (.int k a) y).run P w = .ok () w := by cases op <;> rfl
theorem guard_str {P : Program} {op : BinOp} {t : TypeId} {xo yo : Operand} {a : ByteArray} {y : Value} (w : World) : (eqGuard op t xo yo (.string a) y).run P w = .ok () w := by cases op <;> rfl
theorem guard_bool {P : Program} {op : BinOp} {t : TypeId} {xo yo : Operand} {a : Bool} {y : Value} (w : World) : (eqGuard op t xo yo (.bool a) y).run P w = .ok () w := by cases op <;> rfl
theorem run_binG {P : Program} {wr : Bool} {op : BinOp} {t : TypeId} {te : Option TyE} (ht : ∀ e, te = some e → TyOK P t e) {x y : Value} {pr : Option Prop} {v : Value} (h : binG wr op te x y = some (pr, v)) (hp : obP pr) (xo yo : Operand) (w : World) :
    (do eqGuard op t xo yo x y; binOp op t x y : Sem Value).run P w = .ok v w := by
  unfold binG at h
  split at h
  · rename_i k a k' b
    cases hk : kindEq k k' with
    | false => rw [hk] at h; cases h
    | true =>
      rw [hk] at h
      have := kindEq_spec hk; subst this
      simp only [Sem.run_bind, guard_int, Result.andThen_ok]
      exact run_intG h hp t w
  · rename_i a b
    simp only [Sem.run_bind, guard_str, Result.andThen_ok]
    exact run_strG h hp t w
  · rename_i a b
    simp only [Sem.run_bind, guard_bool, Result.andThen_ok]
    split at h
    · rename_i e s1 s2 s3
      obtain ⟨rfl, rfl⟩ := Prod.mk.inj (Option.some.inj h)
      exact run_eql_bool w t a b (ht _ rfl).1
    · rename_i e s1 s2 s3
      obtain ⟨rfl, rfl⟩ := Prod.mk.inj (Option.some.inj h)
      exact run_neq_bool w t a b (ht _ rfl).1
    · cases h
  · cases h
end Go.Gh

namespace Go.Gh
open Go Go.RowKit
set_option linter.unusedVariables false

theorem addr_add (r o j : Nat) : (⟨r, o, none⟩ : Addr).add j = ⟨r, o + j, none⟩ := by unfold Addr.add; split <;> simp_all
theorem cell_at {w : World} {r : Nat} {arr : Array Value} {T : TypeId} {fr : Nat × Nat} (h : w.heap[r]? = some (.cells arr T fr)) (o : Nat) : w.cell? ⟨r, o, none⟩ = arr[o]? := by simp [World.cell?, h]

section
variable {P : Program} {T : Tab} {o : Oper} {ρ : Operand → G} {H : Hp}

theorem lop_move {x : Operand} (ho : o.op = .move x ∨ o.op = .assign x) : LOp P o ρ H { g := ρ x } := by
  refine lop_pure fun H' _ ν F w a hv hr => ⟨a.eval x, ?_, ?_⟩
  · rcases ho with ho | ho <;> simp [execOp, ho]
  · refine hv x ?_
    rcases ho with ho | ho <;> simp [ho, Op.operands]

/-! pick -/
def boolG : G → Option (Option Bool × Bool)
  | .d (.sc (.bool x)) => some (none, x)
  | .opt c (.d (.sc (.bool x))) => some (some c, x)
  | _ => none
theorem boolG_sound {g : G} {c : Option Bool} {x : Bool} (h : boolG g = some (c, x)) {ν : Nu} {F : Fz} {w : World} {v : Value} (hv : VR ν F w g v) (hc : ∀ b, c = some b → b = true) : v = .bool x := by
  unfold boolG at h
  split at h
  · cases h; exact hv.bool
  · cases h
    cases hv with
    | opt _ _ _ h1 h0 => exact (h1 (hc _ rfl)).bool
  · cases h
def andP : Option Prop → Option Prop → Option Prop
  | none, q => q
  | some p, none => some p
  | some p, some q => some (p ∧ q)
theorem andP_1 {p q : Option Prop} (h : obP (andP p q)) : obP p := by
  cases p with
  | none => trivial
  | some p => cases q with
    | none => exact h
    | some q => exact h.1
theorem andP_2 {p q : Option Prop} (h : obP (andP p q)) : obP q := by
  cases p with
  | none => exact h
  | some p => cases q with
    | none => trivial
    | some q => exact h.2
def optP (p : Prop → Prop) : Option Bool → Option Prop
  | none => none
  | some b => some (p (b = true))
theorem optP_spec {p : Prop → Prop} {c : Option Bool} (h : obP (optP p c)) : ∀ b, c = some b → p (b = true) := fun b e => by subst e; exact h
def pickG (c0 : Bool) (gc ga gb : G) : Option (Option Prop × G) :=
  match boolG gc, boolG ga, boolG gb with
  | some (cc, c), some (ca, x), some (cb, y) => some (andP (optP (fun p => c0 = true → p) cc) (andP (optP (fun p => c0 = true → c = true → p) ca) (optP (fun p => c0 = true → c = false → p) cb)), .d (.sc (.bool (bif c then x else y))))
  | _, _, _ => none
theorem lop_pick {c0 : Bool} {c x y : Operand} (ho : o.op = .pick c x y) {pr : Option Prop} {g : G} (h : pickG c0 (ρ c) (ρ x) (ρ y) = some (pr, g)) (hp : obP pr) (h0 : c0 = true) : LOp P o ρ H { g := g } := by
  unfold pickG at h
  split at h
  · rename_i cc cv ca xv cb yv e1 e2 e3
    obtain ⟨rfl, rfl⟩ := Prod.mk.inj (Option.some.inj h)
    have p1 := optP_spec (andP_1 hp)
    have p2 := optP_spec (andP_1 (andP_2 hp))
    have p3 := optP_spec (andP_2 (andP_2 hp))
    refine lop_pure fun H' _ ν F w a hv hr => ⟨.bool (bif cv then xv else yv), ?_, .d (.sc _ rfl)⟩
    have hc := boolG_sound e1 (hv c (by simp [ho, Op.operands])) (fun b e => p1 b e h0)
    cases cv with
    | true =>
      have hx := boolG_sound e2 (hv x (by simp [ho, Op.operands])) (fun b e => p2 b e h0 rfl)
      simp [execOp, ho, hc, asBool, hx]
    | false =>
      have hy := boolG_sound e3 (hv y (by simp [ho, Op.operands])) (fun b e => p3 b e h0 rfl)
      simp [execOp, ho, hc, asBool, hy]
  · cases h

theorem VR.sc_eq {ν : Nu} {F : Fz} {w : World} {u v : Value} (h : VR ν F w (.d (.sc u)) v) : v = u ∧ u.oneCell' = true := by
  cases h with
  | d h => cases h with
    | sc v h => exact ⟨rfl, h⟩

theorem lop_bin {wr : Bool} {op : BinOp} {t ty : TypeId} {x y : Operand} (hT : TabOK P T) (ho : o.op = .binOp op t x y ty) {u v : Value} (hx : ρ x = .d (.sc u)) (hy : ρ y = .d (.sc v)) {pr : Option Prop} {r : Value}
    (h : binG wr op (tyAt T t) u v = some (pr, r)) (hp : obP pr) (h1 : r.oneCell' = true) : LOp P o ρ H { g := .d (.sc r) } := by
  refine lop_pure fun H' _ ν F w a hv hr => ⟨r, ?_, .d (.sc _ h1)⟩
  have e1 := (hx ▸ hv x (by simp [ho, Op.operands])).sc_eq.1
  have e2 := (hy ▸ hv y (by simp [ho, Op.operands])).sc_eq.1
  simp only [execOp, ho, e1, e2]
  have := run_binG (P := P) (t := t) (fun e he => hT t e he) h hp x y w
  simp only [Sem.run_bind] at this ⊢
  rw [this]
  rfl

def unG (wr : Bool) (op : UnOp) (x : Value) : Option (Option Prop × Value) :=
  match op, x with
  | .neg, .int k a => some (arithG wr k (0 - a))
  | .not, .bool b => some (none, .bool (!b))
  | _, _ => none
theorem lop_un {wr : Bool} {op : UnOp} {t : TypeId} {x : Operand} (ho : o.op = .unOp op t x) {u : Value} (hx : ρ x = .d (.sc u)) {pr : Option Prop} {r : Value} (h : unG wr op u = some (pr, r)) (hp : obP pr) : LOp P o ρ H { g := .d (.sc r) } := by
  unfold unG at h
  split at h
  · rename_i k b
    have e : r = .int k (k.wrap (0 - b)) := by
      cases wr <;> simp only [arithG, Option.some.injEq, Prod.mk.injEq] at h <;> obtain ⟨rfl, rfl⟩ := h
      · rw [wrap_in hp]
      · rfl
    subst e
    refine lop_pure fun H' _ ν F w a hv hr => ⟨_, ?_, .d (.sc _ rfl)⟩
    have e1 := (hx ▸ hv x (by simp [ho, Op.operands])).sc_eq.1
    simp [execOp, ho, e1, Op.unary, Op.intArith]
  · obtain ⟨rfl, rfl⟩ := Prod.mk.inj (Option.some.inj h)
    refine lop_pure fun H' _ ν F w a hv hr => ⟨_, ?_, .d (.sc _ rfl)⟩
    have e1 := (hx ▸ hv x (by simp [ho, Op.operands])).sc_eq.1
    simp [execOp, ho, e1, Op.unary]
  · cases h

def convG (wr : Bool) (d : TypeDesc) (x : Value) : Option (Option Prop × Value) :=
  match d, x with
  | .int k, .int _ n => some (arithG wr k n)
  | .string, .string s => some (none, .string s)
  | _, _ => none
theorem lop_conv {wr : Bool} {src dst : TypeId} {x : Operand} (hT : TabOK P T) (ho : o.op = .convert src dst x) {e1 e2 : TyE} (t1 : tyAt T src = some e1) (t2 : tyAt T dst = some e2) {u : Value} (hx : ρ x = .d (.sc u)) {pr : Option Prop} {r : Value}
    (h : convG wr e2.desc u = some (pr, r)) (hp : obP pr) : LOp P o ρ H { g := .d (.sc r) } := by
  have k1 := hT _ _ t1
  have k2 := hT _ _ t2
  unfold convG at h
  split at h
  · rename_i k kk n hd
    have e : r = .int k (k.wrap n) := by
      cases wr <;> simp only [arithG, Option.some.injEq, Prod.mk.injEq] at h <;> obtain ⟨rfl, rfl⟩ := h
      · rw [wrap_in hp]
      · rfl
    subst e
    refine lop_pure fun H' _ ν F w a hv hr => ⟨_, ?_, .d (.sc _ rfl)⟩
    have e1 := (hx ▸ hv x (by simp [ho, Op.operands])).sc_eq.1
    simp [execOp, ho, e1, convert, k1.under w, k2.under w, hd, Conv.intToInt]
  · rename_i s hd
    obtain ⟨rfl, rfl⟩ := Prod.mk.inj (Option.some.inj h)
    refine lop_pure fun H' _ ν F w a hv hr => ⟨_, ?_, .d (.sc _ rfl)⟩
    have e1 := (hx ▸ hv x (by simp [ho, Op.operands])).sc_eq.1
    simp [execOp, ho, e1, convert, k1.under w, k2.under w, hd]
  · cases h

/-! new variables -/
theorem run_newVar {P : Program} (t : TypeId) (v : Value) (w : World) : (do let a ← newVar t v; pure (Value.pointer (some a)) : Sem Value).run P w = .ok (.pointer (some ⟨w.heap.size, 0, none⟩)) (w.alloc (.cells v.cells t)) := by
  rfl
theorem gop_box {v0 : (Operand → Value) → Value} {t : TypeId} {nx : Nat} {gs : List G} (hrun : ∀ a w, (execOp a o).run P w = .ok (.value (.pointer (some ⟨w.heap.size, 0, none⟩))) (w.alloc (.cells (v0 a).cells t)))
    (hc : ∀ (ν : Nu) (F : Fz) (w : World) (a : Act), (∀ x, x ∈ o.op.operands.toList → VR ν F w (ρ x) (a.eval x)) → CR ν F w gs (v0 a.eval).cells.toList) :
    LOp P o ρ H { g := .ptr nx 0 0 0, upd := [(nx, some (.box gs))], new := [nx] } := by
  intro H' _ hn
  refine gop_val fun ν F w a hv hr hnew => ?_
  have hν := hnew nx (by simp)
  have hk : Keep F w F (w.alloc (.cells (v0 a.eval).cells t)) := keep_alloc (fun b o hb => hr.old_lt hb) _
  have hbr : BR (addNu ν nx w.heap.size 0) F (w.alloc (.cells (v0 a.eval).cells t)) (some (w.heap.size, 0)) (.box gs) := by
    have := ((hc ν F w a hv).keep hk (More.add (r := w.heap.size) (k := 0) hν)).box (r := w.heap.size) (k := 0) (T := t) (by simpa using heap_alloc_new w _) (fun o ho => by have := hr.old_lt ho; omega)
    exact this
  obtain ⟨h1, h2⟩ := hr.add hν (hn nx (by simp)) _ hbr
  refine ⟨_, _, addNu ν nx w.heap.size 0, F, hrun a.eval w, ?_, h1, More.add hν, fun i hi => ?_, h2⟩
  · have := VR.ptr (F := F) (w := w.alloc (.cells (v0 a.eval).cells t)) nx 0 0 0 w.heap.size 0 (addNu_same ν nx w.heap.size 0)
    simpa using this
  · by_cases e : i = nx
    · simp [e]
    · exact absurd (addNu_other ν e) hi
def zeroCellsG (v : Value) : List G := v.cells.toList.map fun u => .d (.sc u)
def zeroO : List Value → Option (List G)
  | [] => some []
  | v :: l => match zeroO l with
    | some r => some (.d (.sc v) :: r)
    | none => none
theorem zeroO_eq : ∀ (l : List Value) (r : List G), zeroO l = some r → r = l.map fun u => .d (.sc u) := by
  intro l
  induction l with
  | nil => intro r h; simp only [zeroO, Option.some.injEq] at h; subst h; rfl
  | cons v l ih =>
    intro r h
    simp only [zeroO] at h
    split at h
    · rename_i r' hr; cases h; rw [ih r' hr]; rfl
    · cases h
def allOne (v : Value) : Bool := v.cells.toList.all (·.oneCell')
theorem zero_CR {ν : Nu} {F : Fz} {w : World} {v : Value} (h : allOne v = true) : CR ν F w (zeroCellsG v) v.cells.toList := by
  simp only [allOne, List.all_eq_true] at h
  refine ⟨by simp [zeroCellsG], h, fun j g u a b => ?_⟩
  simp only [zeroCellsG, List.getElem?_map, b, Option.map_some] at a
  injection a with a; subst a
  exact .d (.sc u (h u (List.mem_of_getElem? b)))
theorem lop_alloc {t : TypeId} (hT : TabOK P T) (ho : o.op = .alloc t) {e : TyE} (te : tyAt T t = some e) (h1 : allOne e.zero = true) (nx : Nat) :
    LOp P o ρ H { g := .ptr nx 0 0 0, upd := [(nx, some (.box (zeroCellsG e.zero)))], new := [nx] } := by
  refine gop_box (v0 := fun _ => e.zero) (t := t) (fun a w => ?_) (fun ν F w a _ => zero_CR h1)
  have := (hT _ _ te).zeroV w
  have k := run_newVar (P := P) t e.zero w
  simp only [Sem.run_bind, Sem.run_pure] at k
  simp only [execOp, ho, Instr.alloc, Sem.run_bind, this, Result.andThen_ok, k, Sem.run_pure]
theorem lop_box {t : TypeId} {x : Operand} (ho : o.op = .box t x) {gs : List G} (hx : cellsG (ρ x) = some gs) (nx : Nat) :
    LOp P o ρ H { g := .ptr nx 0 0 0, upd := [(nx, some (.box gs))], new := [nx] } := by
  refine gop_box (v0 := fun a => a x) (t := t) (fun a w => ?_) (fun ν F w a hv => (hv x (by simp [ho, Op.operands])).cells hx)
  have k := run_newVar (P := P) t (a x) w
  simp only [Sem.run_bind, Sem.run_pure] at k
  simp only [execOp, ho, Instr.box, Sem.run_bind, k, Result.andThen_ok, Sem.run_pure]

/-! reading -/
theorem run_load_agg {t : TypeId} {e : TyE} (hT : TyOK P t e) (ha : aggD e.desc = true) (w : World) (r f : Nat) (vs : List Value) (hl : vs.length = e.size) (h : ∀ (j : Nat) v, vs[j]? = some v → w.cell? ⟨r, f + j, none⟩ = some v) :
    (Instr.loadAt t (.pointer (some ⟨r, f, none⟩))).run P w = .ok (.agg vs.toArray) w := by
  have := run_loadCells_list (P := P) w ⟨r, f, none⟩ vs (fun j v hv => by rw [addr_add]; exact h j v hv)
  simp only [Instr.loadAt, Instr.sureAddr, loadVar, Sem.run_bind, Sem.run_pure, Result.andThen_ok, hT.isAgg w, ha, if_true, hT.sizeOf w, ← hl, this]
theorem run_load_one {t : TypeId} {e : TyE} (hT : TyOK P t e) (ha : aggD e.desc = false) (w : World) (r f : Nat) (v : Value) (h : w.cell? ⟨r, f, none⟩ = some v) :
    (Instr.loadAt t (.pointer (some ⟨r, f, none⟩))).run P w = .ok v w := by
  simp only [Instr.loadAt, Instr.sureAddr, loadVar, Sem.run_bind, Sem.run_pure, Result.andThen_ok, hT.isAgg w, ha]
  simp [h]

def takeO : Nat → List G → Option (List G)
  | 0, _ => some []
  | _ + 1, [] => none
  | n + 1, g :: l => match takeO n l with
    | some r => some (g :: r)
    | none => none
def cutO : Nat → Nat → List G → Option (List G)
  | 0, n, l => takeO n l
  | _ + 1, _, [] => none
  | f + 1, n, _ :: l => cutO f n l
theorem takeO_eq : ∀ (n : Nat) (l r : List G), takeO n l = some r → n ≤ l.length ∧ r = l.take n := by
  intro n
  induction n with
  | zero => intro l r h; simp only [takeO, Option.some.injEq] at h; subst h; simp
  | succ n ih =>
    intro l r h
    cases l with
    | nil => cases h
    | cons g l =>
      simp only [takeO] at h
      split at h
      · rename_i r' hr
        cases h
        obtain ⟨h1, h2⟩ := ih l r' hr
        subst h2
        simp; omega
      · cases h
theorem cutO_eq : ∀ (f n : Nat) (l r : List G), cutO f n l = some r → f + n ≤ l.length ∧ r = (l.drop f).take n := by
  intro f
  induction f with
  | zero => intro n l r h; have := takeO_eq n l r h; simpa using this
  | succ f ih =>
    intro n l r h
    cases l with
    | nil => cases h
    | cons g l =>
      obtain ⟨h1, h2⟩ := ih n l r h
      subst h2
      simp; omega
/-- the constructor first -/
def G.out {α : Type 2} (g : G) (k : G → α) : α :=
  match g with
  | .d x => k (.d x)
  | .ptr b es i f => k (.ptr b es i f)
  | .sl b es i n => k (.sl b es i n)
  | .ep cells => k (.ep cells)
  | .fn f a b => k (.fn f a b)
  | .agg cells => k (.agg cells)
  | .tup vs => k (.tup vs)
  | .iface t g => k (.iface t g)
  | .mp b => k (.mp b)
  | .opt c g => k (.opt c g)
  | .junk => k .junk
def G.nf : G → Option G
  | .d (.sc v) => some (.d (.sc v))
  | .d (.row df cs xs) => some (.d (.row df cs xs))
  | .ptr b es i f => some (.ptr b es i f)
  | .sl b es i n => some (.sl b es i n)
  | .ep cells => some (.ep cells)
  | .fn f a b => some (.fn f a b)
  | .agg cells => some (.agg cells)
  | .tup vs => some (.tup vs)
  | .iface t g => some (.iface t g)
  | .mp b => some (.mp b)
  | .opt c g => some (.opt c g)
  | .junk => some .junk
theorem G.nf_eq {g g' : G} (h : g.nf = some g') : g' = g := by
  unfold G.nf at h
  split at h <;> (cases h; rfl)
def atO : Nat → List G → Option G
  | _, [] => none
  | 0, g :: _ => g.nf
  | n + 1, _ :: l => atO n l
theorem atO_eq : ∀ (n : Nat) (l : List G) (g : G), atO n l = some g → l[n]? = some g := by
  intro n
  induction n with
  | zero => intro l g h; cases l with
    | nil => cases h
    | cons a l => have := G.nf_eq h; subst this; rfl
  | succ n ih => intro l g h; cases l with
    | nil => cases h
    | cons a l => exact ih l g h
def partG (agg : Bool) (size f : Nat) (cells : List G) : Option G :=
  match agg with
  | true => match cutO f size cells with
    | some l => some (.agg l)
    | none => none
  | false => atO f cells
theorem partG_inv {agg : Bool} {size f : Nat} {cells : List G} {g : G} (h : partG agg size f cells = some g) : (agg = true ∧ f + size ≤ cells.length ∧ g = .agg ((cells.drop f).take size)) ∨ (agg = false ∧ cells[f]? = some g) := by
  cases agg with
  | true =>
    simp only [partG] at h
    split at h
    · rename_i l hl
      cases h
      obtain ⟨h1, h2⟩ := cutO_eq _ _ _ _ hl
      subst h2
      exact .inl ⟨rfl, h1, rfl⟩
    · cases h
  | false => exact .inr ⟨rfl, atO_eq _ _ _ h⟩
def loadG (e : TyE) (g : G) (H : Hp) : Option (Option Prop × G × List Nat) :=
  match g with
  | .ptr b es i f =>
    match H b with
    | some (.box cells) => match i, partG (aggD e.desc) e.size f cells with
      | 0, some r => some (none, r, [b])
      | _, _ => none
    | some (.row ty es' df cs xs fz) => match partG (aggD e.desc) e.size f ((cs (xs.getD i df)).map .d) with
      | some r => some (some (i < xs.length ∧ es = es'), r, [b])
      | none => none
    | _ => none
  | .ep cells => match partG (aggD e.desc) e.size 0 (cells.map .d) with
    | some r => some (none, r, [])
    | none => none
  | _ => none
theorem part_load {t : TypeId} {e : TyE} (hT : TyOK P t e) {ν : Nu} {F : Fz} {w : World} {gs : List G} {vs : List Value} (hc : CR ν F w gs vs) {f : Nat} {g : G} (h : partG (aggD e.desc) e.size f gs = some g) {r off : Nat}
    (hw : ∀ (j : Nat) v, vs[j]? = some v → w.cell? ⟨r, off + j, none⟩ = some v) : ∃ v, (Instr.loadAt t (.pointer (some ⟨r, off + f, none⟩))).run P w = .ok v w ∧ VR ν F w g v := by
  rcases partG_inv h with ⟨ha, hle, rfl⟩ | ⟨ha, h⟩
  · refine ⟨.agg ((vs.drop f).take e.size).toArray, run_load_agg hT ha w r (off + f) _ (by rw [List.length_take, List.length_drop, hc.len]; omega) (fun j v hv => ?_), ((hc.drop f).take e.size).agg⟩
    rw [List.getElem?_take] at hv
    split at hv
    · rw [List.getElem?_drop] at hv
      have := hw _ _ hv
      rw [show off + f + j = off + (f + j) by omega]; exact this
    · cases hv
  · obtain ⟨u, hu, hv⟩ := hc.at_ h
    exact ⟨u, run_load_one hT ha w r (off + f) u (hw _ _ hu), hv⟩
theorem lop_load {t : TypeId} {x : Operand} (hT : TabOK P T) (ho : o.op = .load t x) {e : TyE} (te : tyAt T t = some e) {pr : Option Prop} {g : G} {fp : List Nat} (h : loadG e (ρ x) H = some (pr, g, fp)) (hp : obP pr) : LOp P o ρ H { g := g, fp := fp } := by
  have k := hT _ _ te
  have hx : x ∈ o.op.operands.toList := by simp [ho, Op.operands]
  have exec : ∀ (a : Act) w v, (Instr.loadAt t (a.eval x)).run P w = .ok v w → (execOp a.eval o).run P w = .ok (.value v) w := fun a w v hv => by simp only [execOp, ho, Sem.run_bind, hv, Result.andThen_ok, Sem.run_pure]
  unfold loadG at h
  split at h
  · rename_i b es i f hρ
    split at h
    · rename_i cells hH
      split at h
      · rename_i r hpart
        simp only [Option.some.injEq, Prod.mk.injEq] at h
        obtain ⟨rfl, rfl, rfl⟩ := h
        refine lop_pure fun H' hf ν F w a hv hr => ?_
        have hH' := (hf b (by simp)).trans hH
        obtain ⟨r, q, vs, T', e1, e2, hc, _⟩ := (hr.blk b _ hH').box_cells
        have hv1 := hv x hx
        have exec' := exec a
        rw [hρ] at hv1
        generalize a.eval x = u at hv1 exec'
        cases hv1 with
        | ptr _ _ _ _ r' k' he =>
        rw [e1] at he; injection he with he; injection he with he1 he2; subst he1
        obtain ⟨v, h1, h2⟩ := part_load k hc hpart (r := r) (off := 0) (fun j v hj => by rw [Nat.zero_add, cell_at e2]; simpa using hj)
        exact ⟨v, exec' w v (by rw [Nat.zero_mul]; exact h1), h2⟩
      · cases h
    · rename_i α ty es' df cs xs fz hH
      split at h
      · rename_i r hpart
        simp only [Option.some.injEq, Prod.mk.injEq] at h
        obtain ⟨rfl, rfl, rfl⟩ := h
        obtain ⟨hi, rfl⟩ := hp
        refine lop_pure fun H' hf ν F w a hv hr => ?_
        have hH' := (hf b (by simp)).trans hH
        have exec' := exec a
        have hv1 := hv x hx
        rw [hρ] at hv1
        generalize a.eval x = u at hv1 exec'
        cases hv1 with
        | ptr _ _ _ _ r' k' he =>
        rcases hr.blk b _ hH' with ⟨q1, q2, _⟩ | ⟨r, q, arr, e1, e2, _, e3, e4, e5, e6, e7, _⟩
        · rw [q1] at he; cases he
        · rw [e1] at he; injection he with he; injection he with he1 he2; subst he1
          have hx' : xs[i]? = some (xs.getD i df) := by simp [List.getElem?_eq_getElem hi]
          have hc : CR ν F w ((cs (xs.getD i df)).map .d) ((arr.toList.drop (i * es)).take es) := by
            have hlen := e5 (xs.getD i df) (List.mem_of_getElem? hx')
            have hle : (i + 1) * es ≤ arr.toList.length := by
              have : arr.toList.length = q * es := by simpa using e3
              rw [this]; exact Nat.mul_le_mul_right es (by omega)
            rw [Nat.succ_mul] at hle
            refine ⟨by rw [List.length_take, List.length_drop, List.length_map, hlen]; omega, fun u hu => e6 u (List.mem_of_mem_drop (List.mem_of_mem_take hu)), fun j g u a b => ?_⟩
            rw [List.getElem?_map] at a
            cases hj : (cs (xs.getD i df))[j]? with
            | none => rw [hj] at a; cases a
            | some d =>
              rw [hj] at a; simp only [Option.map_some] at a; injection a with a; subst a
              rw [List.getElem?_take] at b
              split at b
              · rw [List.getElem?_drop] at b
                exact .d (e7 i _ j d u hx' hj (by simpa using b))
              · cases b
          obtain ⟨v, h1, h2⟩ := part_load k hc hpart (r := r) (off := i * es) (fun j v hj => by
            rw [cell_at e2]
            rw [List.getElem?_take] at hj
            split at hj
            · rw [List.getElem?_drop] at hj; simpa using hj
            · cases hj)
          exact ⟨v, exec' w v h1, h2⟩
      · cases h
    · cases h
  · rename_i cells hρ
    split at h
    · rename_i r hpart
      simp only [Option.some.injEq, Prod.mk.injEq] at h
      obtain ⟨rfl, rfl, rfl⟩ := h
      refine lop_pure fun H' hf ν F w a hv hr => ?_
      have exec' := exec a
      have hv1 := hv x hx
      rw [hρ] at hv1
      generalize a.eval x = u at hv1 exec'
      cases hv1 with
      | ep _ b off val hw hF hd =>
      have hc : CR ν F w (cells.map .d) ((List.range cells.length).map val) := by
        have hval : ∀ j u, ((List.range cells.length).map val)[j]? = some u → ∃ d, cells[j]? = some d ∧ u = val j := fun j u hu => by
          rw [List.getElem?_map] at hu
          cases hj : (List.range cells.length)[j]? with
          | none => rw [hj] at hu; cases hu
          | some j' =>
            rw [hj] at hu; simp only [Option.map_some] at hu; injection hu with hu
            have hlt : j < cells.length := by simpa using (List.getElem?_eq_some_iff.1 hj).1
            rw [List.getElem?_range hlt] at hj; injection hj with hj; subst hj
            exact ⟨cells[j], List.getElem?_eq_getElem hlt, hu.symm⟩
        refine ⟨by simp, fun u hu => ?_, fun j g u a b => ?_⟩
        · obtain ⟨j, hj⟩ := List.getElem?_of_mem hu
          obtain ⟨d, h1, rfl⟩ := hval j u hj
          exact (hd j d h1).one
        · obtain ⟨d, h1, rfl⟩ := hval j u b
          rw [List.getElem?_map, h1] at a; simp only [Option.map_some] at a; injection a with a; subst a
          exact .d (hd j d h1)
      obtain ⟨v, h1, h2⟩ := part_load k hc hpart (r := b) (off := off) (fun j v hj => by
        rw [List.getElem?_map] at hj
        cases hj' : (List.range cells.length)[j]? with
        | none => rw [hj'] at hj; cases hj
        | some j' =>
          rw [hj'] at hj; simp only [Option.map_some] at hj; injection hj with hj
          have hlt : j < cells.length := by simpa using (List.getElem?_eq_some_iff.1 hj').1
          rw [List.getElem?_range hlt] at hj'; injection hj' with hj'; subst hj'
          rw [hw j _ (List.getElem?_eq_getElem hlt), hj])
      exact ⟨v, exec' w v h1, h2⟩
    · cases h
  · cases h
end
end Go.Gh

namespace Go.Gh
open Go Go.RowKit
set_option linter.unusedVariables false

theorem VR.ptr_inv {ν : Nu} {F : Fz} {w : World} {b es i f : Nat} {v : Value} (h : VR ν F w (.ptr b es i f) v) : ∃ r k, ν b = some (r, k) ∧ v = .pointer (some ⟨r, i * es + f, none⟩) := by
  cases h with
  | ptr _ _ _ _ r k he => exact ⟨r, k, he, rfl⟩
theorem VR.ep_inv {ν : Nu} {F : Fz} {w : World} {cells : List D} {v : Value} (h : VR ν F w (.ep cells) v) : ∃ (b off : Nat) (val : Nat → Value), v = .pointer (some ⟨b, off, none⟩) ∧ (∀ (j : Nat) x, cells[j]? = some x → w.cell? ⟨b, off + j, none⟩ = some (val j)) ∧
    (∀ (j : Nat) x, cells[j]? = some x → F b (off + j)) ∧ (∀ (j : Nat) x, cells[j]? = some x → DR F w x (val j)) := by
  cases h with
  | ep _ b off val hw hF h => exact ⟨b, off, val, rfl, hw, hF, h⟩
theorem VR.agg_inv {ν : Nu} {F : Fz} {w : World} {cells : List G} {v : Value} (h : VR ν F w (.agg cells) v) : ∃ cs : Array Value, v = .agg cs ∧ CR ν F w cells cs.toList := by
  cases h with
  | agg _ cs h1 hc k => exact ⟨cs, rfl, ⟨by simpa using h1, hc, fun j g u a b => k j g u a (by simpa using b)⟩⟩

theorem VR.row_inv {ν : Nu} {F : Fz} {w : World} {α : Type} {df : α} {cells : α → List D} {xs : List α} {v : Value} (h : VR ν F w (.d (.row df cells xs)) v) : ∃ (A : Option Addr) (c b off es : Nat) (val : Nat → Nat → Value), v = .slice A xs.length c ∧
      (xs ≠ [] → A = some ⟨b, off, none⟩) ∧ xs.length ≤ c ∧ (∀ e, e ∈ xs → (cells e).length = es) ∧
      (∀ (i : Nat) e (j : Nat) x, xs[i]? = some e → (cells e)[j]? = some x → w.cell? ⟨b, off + i * es + j, none⟩ = some (val i j)) ∧
      (∀ (i : Nat) e (j : Nat) x, xs[i]? = some e → (cells e)[j]? = some x → F b (off + i * es + j)) ∧
      (∀ (i : Nat) e (j : Nat) x, xs[i]? = some e → (cells e)[j]? = some x → DR F w x (val i j)) := by
  cases h with
  | d h => cases h with
    | row _ _ _ A c b off es val hA hc hl hw hF hdr => exact ⟨A, c, b, off, es, val, rfl, hA, hc, hl, hw, hF, hdr⟩
theorem VR.sl_inv {ν : Nu} {F : Fz} {w : World} {b es i n : Nat} {v : Value} (h : VR ν F w (.sl b es i n) v) : ∃ (A : Option Addr) (c : Nat), v = .slice A n c ∧ (0 < n → ∃ r k, ν b = some (r, k) ∧ A = some ⟨r, i * es, none⟩ ∧ i + n ≤ k ∧ c = k - i) ∧
      (n = 0 → i = 0 → (∃ r k, ν b = some (r, k) ∧ A = some ⟨r, 0, none⟩ ∧ c = k) ∨ (A = none ∧ c = 0)) ∧ n ≤ c := by
  cases h with
  | sl _ _ _ _ A c h1 h2 h3 => exact ⟨A, c, rfl, h1, h2, h3⟩

section
variable {P : Program} {T : Tab} {o : Oper} {ρ : Operand → G} {H : Hp}

def putO : Nat → List G → List G → Option (List G)
  | 0, [], l => some l
  | 0, g :: gs, _ :: l => match putO 0 gs l with
    | some r => some (g :: r)
    | none => none
  | 0, _ :: _, [] => none
  | _ + 1, _, [] => none
  | f + 1, gs, x :: l => match putO f gs l with
    | some r => some (x :: r)
    | none => none
theorem putO_eq0 : ∀ (gs l r : List G), putO 0 gs l = some r → gs.length ≤ l.length ∧ r = gs ++ l.drop gs.length := by
  intro gs
  induction gs with
  | nil => intro l r h; simp only [putO, Option.some.injEq] at h; subst h; simp
  | cons g gs ih =>
    intro l r h
    cases l with
    | nil => simp only [putO] at h; cases h
    | cons x l =>
      simp only [putO] at h
      split at h
      · rename_i r' hr
        cases h
        obtain ⟨h1, h2⟩ := ih l r' hr
        subst h2
        simp; omega
      · cases h
theorem putO_eq : ∀ (f : Nat) (gs l r : List G), putO f gs l = some r → f + gs.length ≤ l.length ∧ r = l.take f ++ gs ++ l.drop (f + gs.length) := by
  intro f
  induction f with
  | zero => intro gs l r h; have := putO_eq0 gs l r h; simpa using this
  | succ f ih =>
    intro gs l r h
    cases l with
    | nil => simp only [putO] at h; cases h
    | cons x l =>
      simp only [putO] at h
      split at h
      · rename_i r' hr
        cases h
        obtain ⟨h1, h2⟩ := ih gs l r' hr
        subst h2
        have e : f + 1 + gs.length = (f + gs.length) + 1 := by omega
        rw [e]
        simp; omega
      · cases h
def fitB : Option (List G) → Nat → Nat → List G → Option (List G)
  | some gs, size, f, cells => bif Nat.beq gs.length size then putO f gs cells else none
  | none, _, _, _ => none
theorem fitB_inv {og : Option (List G)} {size f : Nat} {cells cs : List G} (h : fitB og size f cells = some cs) : ∃ gs, og = some gs ∧ gs.length = size ∧ f + size ≤ cells.length ∧ cs = cells.take f ++ gs ++ cells.drop (f + size) := by
  cases og with
  | none => cases h
  | some gs =>
    simp only [fitB] at h
    cases hb : Nat.beq gs.length size with
    | false => rw [hb] at h; cases h
    | true =>
      rw [hb] at h
      have := Nat.eq_of_beq_eq_true hb
      subst this
      obtain ⟨h1, h2⟩ := putO_eq _ _ _ _ h
      exact ⟨gs, rfl, rfl, h1, h2⟩
def storeG (e : TyE) (ga gv : G) (H : Hp) : Option (List (Nat × Option Blk) × List Nat) :=
  match ga with
  | .ptr b es 0 f =>
    match H b with
    | some (.box cells) => match fitB (cellsG gv) e.size f cells with
      | some cs => some ([(b, some (.box cs))], [b])
      | none => none
    | _ => none
  | _ => none
theorem lop_store {t : TypeId} {x y : Operand} (hT : TabOK P T) (ho : o.op = .store t x y) {e : TyE} (te : tyAt T t = some e) {upd : List (Nat × Option Blk)} {fp : List Nat} (h : storeG e (ρ x) (ρ y) H = some (upd, fp)) :
    LOp P o ρ H { g := .junk, upd := upd, fp := fp } := by
  have k := hT _ _ te
  unfold storeG at h
  split at h
  · rename_i b es f hρ
    split at h
    · rename_i cells hH
      split at h
      · rename_i cs hfit
        simp only [Option.some.injEq, Prod.mk.injEq] at h
        obtain ⟨rfl, rfl⟩ := h
        obtain ⟨gs, hgs, hsz, hle, rfl⟩ := fitB_inv hfit
        intro H' hf hn
        refine gop_skip fun ν F w a hv hr => ?_
        have hH' := (hf b (by simp)).trans hH
        obtain ⟨r, q, arr, T', e1, e2, hc, hF⟩ := (hr.blk b _ hH').box_cells
        have hx := hv x (by simp [ho, Op.operands])
        have hy := (hv y (by simp [ho, Op.operands])).cells hgs
        rw [hρ] at hx
        obtain ⟨r', k', he, hxe⟩ := hx.ptr_inv
        rw [e1] at he; injection he with he; injection he with he1 he2; subst he1
        have hlen : arr.toList.length = cells.length := hc.len
        have hsize : arr.size = arr.toList.length := by simp
        have hlv : (a.eval y).cells.toList.length = e.size := by rw [hy.len, hsz]
        have hrun := run_storeCells_at (P := P) r f T' (a.eval y).cells.toList 0 arr w e2 (by rw [hlv]; omega) hy.one
        refine ⟨w.setRow r (arr.toList.take (f + 0) ++ (a.eval y).cells.toList ++ arr.toList.drop (f + 0 + (a.eval y).cells.toList.length)).toArray, ?_, ?_⟩
        · have hcs : ¬ ((a.eval y).cells.size ≠ e.size) := by
            have : (a.eval y).cells.size = (a.eval y).cells.toList.length := by simp
            rw [this, hlv]; simp
          simp only [execOp, ho, Instr.storeAt, hxe, Instr.sureAddr, Sem.run_bind, Sem.run_pure, Result.andThen_ok, storeVar, k.sizeOf w, Nat.zero_mul, Nat.zero_add]
          rw [if_neg hcs]
          rw [hrun]
          rfl
        · generalize hvs : (arr.toList.take (f + 0) ++ (a.eval y).cells.toList ++ arr.toList.drop (f + 0 + (a.eval y).cells.toList.length)) = vs
          have hk : Keep F w F (w.setRow r vs.toArray) := ⟨fun _ _ h => h, fun b' o' hb' => by
            have hne : b' ≠ r := fun e => hF o' (e ▸ hb')
            simp only [World.cell?, setRow_other w r b' _ hne]⟩
          have hcr0 : CR ν F w (cells.take f ++ gs ++ cells.drop (f + e.size)) vs := by
            rw [← hvs, hlv]
            exact ((hc.take f).append hy).append (hc.drop (f + e.size))
          have hcr := hcr0.keep hk (More.refl _)
          exact hr.put hH' e1 (fun r' hr' => setRow_other w r r' _ hr') (by simp [World.setRow]) (fun o ho' => absurd ho' (hF o)) rfl rfl rfl (hcr.box (setRow_heap w r arr _ T' (0, 0) e2) hF)
      · cases h
    · cases h
  · cases h

/-! addresses of fields and elements -/
def fieldOf (e : TyE) (k : Nat) : Option Field :=
  match e.desc with
  | .struct fs => fs[k]?
  | _ => none
def fieldAddrG (f : Field) (fe : TyE) (g : G) : Option G :=
  bif Nat.beq fe.size 0 then none else
  match g with
  | .ptr b es i off => some (.ptr b es i (off + f.offset))
  | .ep cells => some (.ep (cells.drop f.offset))
  | _ => none
theorem ptr_nonnull {ν : Nu} {F : Fz} {w : World} {g : G} {v : Value} (h : VR ν F w g v) {f : Field} {fe : TyE} {g' : G} (hg : fieldAddrG f fe g = some g') :
    ∃ ad off, v = .pointer (some ⟨ad, off, none⟩) ∧ VR ν F w g' (.pointer (some ⟨ad, off + f.offset, none⟩)) := by
  unfold fieldAddrG at hg
  cases hz : Nat.beq fe.size 0 with
  | true => rw [hz] at hg; cases hg
  | false =>
    rw [hz] at hg
    simp only [cond_false] at hg
    split at hg
    · cases hg
      obtain ⟨r, k, he, hv⟩ := h.ptr_inv
      exact ⟨r, _, hv, by rw [Nat.add_assoc]; exact .ptr _ _ _ _ r k he⟩
    · cases hg
      obtain ⟨b, off, val, hv, h1, h2, h3⟩ := h.ep_inv
      refine ⟨b, off, hv, .ep _ _ _ (fun j => val (f.offset + j)) (fun j x hj => ?_) (fun j x hj => ?_) (fun j x hj => ?_)⟩ <;> rw [List.getElem?_drop] at hj
      · rw [Nat.add_assoc]; exact h1 _ _ hj
      · rw [Nat.add_assoc]; exact h2 _ _ hj
      · exact h3 _ _ hj
    · cases hg
theorem lop_fieldAddr {t : TypeId} {x : Operand} {n : Nat} (hT : TabOK P T) (ho : o.op = .fieldAddr t x n) {e : TyE} (te : tyAt T t = some e) {f : Field} (hf : fieldOf e n = some f) {fe : TyE} (tf : tyAt T f.type = some fe) {g : G}
    (h : fieldAddrG f fe (ρ x) = some g) : LOp P o ρ H { g := g } := by
  have k := hT _ _ te
  have kf := hT _ _ tf
  refine lop_pure fun H' _ ν F w a hv hr => ?_
  obtain ⟨ad, off, h1, h2⟩ := ptr_nonnull (hv x (by simp [ho, Op.operands])) h
  refine ⟨_, ?_, h2⟩
  have hz : ¬ fe.size = 0 := by
    intro hz
    simp only [fieldAddrG, hz, Nat.beq_refl, cond_true] at h
    cases h
  unfold fieldOf at hf
  split at hf
  · rename_i fs hd
    simp only [execOp, ho, Instr.fieldAt, Sem.run_bind, k.under w, Result.andThen_ok, hd, hf, h1, Instr.sureAddr, Sem.run_pure, fieldPlace, kf.sizeOf w]
    rw [if_neg hz]
    simp only [Sem.run_pure, Result.andThen_ok, addr_add]
  · cases hf

/-- a part of a struct's value -/
theorem run_part {t : TypeId} {e : TyE} (hT : TyOK P t e) {ν : Nu} {F : Fz} {w : World} {gs : List G} {cs : Array Value} (hc : CR ν F w gs cs.toList) {f : Nat} {g : G} (h : partG (aggD e.desc) e.size f gs = some g) : ∃ v, (part t cs f).run P w = .ok v w ∧ VR ν F w g v := by
  rcases partG_inv h with ⟨ha, hle, rfl⟩ | ⟨ha, h⟩
  · refine ⟨.agg (cs.extract f (f + e.size)), ?_, ?_⟩
    · simp only [part, Sem.run_bind, hT.isAgg w, ha, Result.andThen_ok, if_true, hT.sizeOf w, Sem.run_pure]
    · have := ((hc.drop f).take e.size).agg
      have e1 : ((cs.toList.drop f).take e.size).toArray = cs.extract f (f + e.size) := by
        apply Array.ext'
        simp
      rw [e1] at this; exact this
  · obtain ⟨u, hu, hv⟩ := hc.at_ h
    have hu' : cs[f]? = some u := by simpa using hu
    exact ⟨u, by simp [part, hT.isAgg w, ha, hu'], hv⟩
def fieldG (f : Field) (fe : TyE) (g : G) : Option G :=
  match g with
  | .agg cells => partG (aggD fe.desc) fe.size f.offset cells
  | _ => none
theorem lop_field {t : TypeId} {x : Operand} {n : Nat} (hT : TabOK P T) (ho : o.op = .field t x n) {e : TyE} (te : tyAt T t = some e) {f : Field} (hf : fieldOf e n = some f) {fe : TyE} (tf : tyAt T f.type = some fe) {g : G}
    (h : fieldG f fe (ρ x) = some g) : LOp P o ρ H { g := g } := by
  have k := hT _ _ te
  have kf := hT _ _ tf
  unfold fieldG at h
  split at h
  · rename_i cells hρ
    refine lop_pure fun H' _ ν F w a hv hr => ?_
    have hx := hv x (by simp [ho, Op.operands])
    rw [hρ] at hx
    obtain ⟨cs, h1, h2⟩ := hx.agg_inv
    obtain ⟨v, h3, h4⟩ := run_part kf h2 h
    refine ⟨v, ?_, h4⟩
    unfold fieldOf at hf
    split at hf
    · rename_i fs hd
      simp only [execOp, ho, Instr.field, Sem.run_bind, k.under w, Result.andThen_ok, hd, hf, h1, asAgg, Sem.run_pure, h3]
    · cases hf
  · cases h

theorem lop_extract {x : Operand} {n : Nat} (ho : o.op = .extract x n) {vs : List G} (hρ : ρ x = .tup vs) {g : G} (h : vs[n]? = some g) : LOp P o ρ H { g := g } := by
  refine lop_pure fun H' _ ν F w a hv hr => ?_
  have hx := hv x (by simp [ho, Op.operands])
  rw [hρ] at hx
  cases hxe : a.eval x <;> rw [hxe] at hx <;> cases hx
  rename_i us h1 k
  have hn : n < us.size := by rw [h1]; exact (List.getElem?_eq_some_iff.1 h).1
  refine ⟨us[n], ?_, k n g _ h (by simp [hn])⟩
  simp [execOp, ho, Instr.extract, hxe, hn]

/-! indexing -/
def idxOf : G → Option (IntKind × Int)
  | .d (.sc (.int k n)) => some (k, n)
  | _ => none
theorem idxOf_sound {g : G} {k : IntKind} {n : Int} (h : idxOf g = some (k, n)) {ν : Nu} {F : Fz} {w : World} {v : Value} (hv : VR ν F w g v) : v = .int k n := by
  unfold idxOf at h
  split at h
  · cases h; exact hv.sc_eq.1
  · cases h
def indexAddrG (es : Nat) (g : G) (n : Int) : Option (Option Prop × G) :=
  match g with
  | .d (.row df cs xs) => some (some (0 ≤ n ∧ n < xs.length ∧ (cs (xs.getD n.toNat df)).length = es), .ep (cs (xs.getD n.toNat df)))
  | .sl b es' i m => some (some (0 ≤ n ∧ n < m ∧ es' = es), .ptr b es' (i + n.toNat) 0)
  | _ => none
theorem lop_indexAddr {t : TypeId} {x y : Operand} (hT : TabOK P T) (ho : o.op = .indexAddr t x y) {e : TyE} (te : tyAt T t = some e) {el : TypeId} (hd : e.desc = .slice el) {ee : TyE} (tee : tyAt T el = some ee) {k : IntKind} {n : Int} (hy : idxOf (ρ y) = some (k, n))
    {pr : Option Prop} {g : G} (h : indexAddrG ee.size (ρ x) n = some (pr, g)) (hp : obP pr) : LOp P o ρ H { g := g } := by
  have kt := hT _ _ te
  have ke := hT _ _ tee
  refine lop_pure fun H' _ ν F w a hv hr => ?_
  have hye := idxOf_sound hy (hv y (by simp [ho, Op.operands]))
  have hx := hv x (by simp [ho, Op.operands])
  have run : ∀ (r off len c : Nat), a.eval x = .slice (some ⟨r, off, none⟩) len c → 0 ≤ n → n < len → (execOp a.eval o).run P w = .ok (.value (.pointer (some ⟨r, off + n.toNat * ee.size, none⟩))) w := fun r off len c h1 h2 h3 => by
    simp only [execOp, ho, Instr.indexAt, Sem.run_bind, hye, asIntOf, Sem.run_pure, Result.andThen_ok, kt.under w, hd, h1]
    rw [if_pos ⟨h2, h3⟩]
    simp only [Sem.run_bind, Sem.run_pure, Result.andThen_ok, ke.sizeOf w, addr_add]
  unfold indexAddrG at h
  split at h
  · rename_i α df cs xs hρ
    obtain ⟨rfl, rfl⟩ := Prod.mk.inj (Option.some.inj h)
    obtain ⟨h0, h1, h2⟩ := hp
    rw [hρ] at hx
    obtain ⟨A, c, b, off, es, val, hxe, hA, hc, hl, hw, hF, hdr⟩ := hx.row_inv
    have hi : n.toNat < xs.length := by omega
    have hx' : xs[n.toNat]? = some (xs.getD n.toNat df) := by simp [List.getElem?_eq_getElem hi]
    have hes := hl _ (List.mem_of_getElem? hx')
    rw [h2] at hes; subst hes
    have hAe := hA (by intro e; rw [e] at hi; simp at hi)
    subst hAe
    refine ⟨_, run b off xs.length c hxe h0 h1, .ep _ _ _ (fun j => val n.toNat j) (fun j x hj => hw _ _ _ _ hx' hj) (fun j x hj => hF _ _ _ _ hx' hj) (fun j x hj => hdr _ _ _ _ hx' hj)⟩
  · rename_i b es' i m hρ
    obtain ⟨rfl, rfl⟩ := Prod.mk.inj (Option.some.inj h)
    obtain ⟨h0, h1, rfl⟩ := hp
    rw [hρ] at hx
    obtain ⟨A, c, hxe, k1, k2, k3⟩ := hx.sl_inv
    obtain ⟨r, q, e1, e2, e3, e4⟩ := k1 (by omega)
    subst e2
    refine ⟨_, run r (i * ee.size) m c hxe h0 h1, ?_⟩
    have := VR.ptr (F := F) (w := w) b ee.size (i + n.toNat) 0 r q e1
    rw [Nat.add_mul, Nat.add_zero] at this; exact this
  · cases h

def byteAt (s : ByteArray) (n : Nat) : Int := ((s.data.toList.getD n 0).toNat : Int)
def indexG (d : TypeDesc) (ee : Option TyE) (g : G) (n : Int) : Option (Option Prop × G) :=
  match d, g with
  | .string, .d (.sc (.string s)) => some (some (0 ≤ n ∧ n < s.size), .d (.sc (.int .u8 (byteAt s n.toNat))))
  | _, _ => none
theorem lop_index {t : TypeId} {x y : Operand} (hT : TabOK P T) (ho : o.op = .index t x y) {e : TyE} (te : tyAt T t = some e) {k : IntKind} {n : Int} (hy : idxOf (ρ y) = some (k, n)) {pr : Option Prop} {g : G} (h : indexG e.desc none (ρ x) n = some (pr, g)) (hp : obP pr) : LOp P o ρ H { g := g } := by
  have kt := hT _ _ te
  refine lop_pure fun H' _ ν F w a hv hr => ?_
  have hye := idxOf_sound hy (hv y (by simp [ho, Op.operands]))
  have hx := hv x (by simp [ho, Op.operands])
  unfold indexG at h
  split at h
  · rename_i s hd hρ
    obtain ⟨rfl, rfl⟩ := Prod.mk.inj (Option.some.inj h)
    have hp : 0 ≤ n ∧ n < s.size := hp
    rw [hρ] at hx
    have hxe := hx.sc_eq.1
    refine ⟨_, ?_, .d (.sc _ rfl)⟩
    have hb : (if 0 ≤ n then s[n.toNat]? else none) = some (s.data.toList.getD n.toNat 0) := by
      rw [if_pos hp.1]
      have : n.toNat < s.size := by omega
      have h2 : n.toNat < s.data.size := this
      rw [getElem?_pos s n.toNat this]
      have e1 : s.data.toList.getD n.toNat 0 = s.data[n.toNat]'h2 := by
        rw [List.getD_eq_getElem?_getD, Array.getElem?_toList, Array.getElem?_eq_getElem h2]; rfl
      rw [e1]
      rfl
    simp only [execOp, ho, Instr.index, Sem.run_bind, hye, asIntOf, Sem.run_pure, Result.andThen_ok, kt.under w, hd, hxe, hb, byteAt]
  · cases h
end
end Go.Gh

namespace Go.Gh
open Go Go.RowKit
set_option linter.unusedVariables false

theorem block_of_add (a : Addr) (n : Nat) : (a.add n).block = a.block := by unfold Addr.add; split <;> rfl
theorem add_of_add (a : Addr) (i j : Nat) : (a.add i).add j = a.add (i + j) := by
  unfold Addr.add
  by_cases hi : i = 0 <;> by_cases hj : j = 0 <;> simp [hi, hj, Nat.add_assoc]

def Reads (w : World) (B size : Nat) (A : Option Addr) (n : Nat) (xs : List Value) : Prop :=
  xs.length = n * size ∧ (0 < n → ∃ ad, A = some ad ∧ ad.block < B ∧ ∀ j u, xs[j]? = some u → w.cell? (ad.add j) = some u)

section
variable {w w' : World} {B B' size n : Nat} {A : Option Addr} {xs : List Value}
theorem Reads.none_ : Reads w B size A 0 [] := ⟨by simp, fun h => absurd h (by omega)⟩
theorem Reads.at_ {k : Nat} (h : Reads w B 1 A n xs) (hk : k < n) : ∃ ad u, A = some ad ∧ ad.block < B ∧ xs[k]? = some u ∧ w.cell? (ad.add k) = some u := by
  obtain ⟨ad, e, hb, hc⟩ := h.2 (by omega)
  have hl : k < xs.length := by have := h.1; omega
  exact ⟨ad, xs[k], e, hb, List.getElem?_eq_getElem hl, hc k _ (List.getElem?_eq_getElem hl)⟩
theorem Reads.keep (h : Reads w B size A n xs) (hk : ∀ p : Addr, p.block < B → w'.cell? p = w.cell? p) : Reads w' B size A n xs :=
  ⟨h.1, fun hn => by
    obtain ⟨ad, e, hb, hc⟩ := h.2 hn
    exact ⟨ad, e, hb, fun j u hu => (hk _ (by rw [block_of_add]; exact hb)).trans (hc j u hu)⟩⟩
theorem Reads.more (h : Reads w B size A n xs) (hB : B ≤ B') : Reads w B' size A n xs :=
  ⟨h.1, fun hn => by
    obtain ⟨ad, e, hb, hc⟩ := h.2 hn
    exact ⟨ad, e, by omega, hc⟩⟩
theorem Reads.below (h : Reads w B size A n xs) (hb : Below B w w') : Reads w' B size A n xs := h.keep fun _ hp => hb.cell hp
theorem Reads.drew (h : Reads w B size A n xs) : Reads w.drew B size A n xs := h
theorem Reads.drewN (h : Reads w B size A n xs) (k : Nat) : Reads (w.drewN k) B size A n xs := h
theorem Reads.alloc (h : Reads w B size A n xs) (hB : B ≤ w.heap.size) (o : Obj) : Reads (w.alloc o) B size A n xs := h.keep fun p hp => World.cell?_alloc_lt w o p (by omega)
theorem Reads.setCell (h : Reads w B size A n xs) {p : Addr} (hB : B ≤ p.block) (u : Value) : Reads (w.setCell p u) B size A n xs :=
  h.keep fun q hq => World.cell?_setCell_other w p q u (fun e => by subst e; omega)
theorem Reads.grown (h : Reads w B size A n xs) {row : Option Nat} (hg : w.grownBy w' row) (hB : B ≤ w.heap.size) (hr : ∀ g, row = some g → B ≤ g) : Reads w' B size A n xs :=
  h.keep fun p hp => World.cell?_of_block (hg.block p.block (by omega) (fun e => by have := hr _ e.symm; omega))
theorem Reads.cut (h : Reads w B size A n xs) {k cap : Nat} (hk : k ≤ n) (hc : n ≤ cap) :
    Reads w B size (if cap = k then A else A.map (·.add (k * size))) (n - k) (xs.drop (k * size)) := by
  refine ⟨by rw [List.length_drop, h.1, Nat.sub_mul], fun hn => ?_⟩
  obtain ⟨ad, rfl, hb, hcell⟩ := h.2 (by omega)
  rw [if_neg (by omega)]
  refine ⟨ad.add (k * size), rfl, by rw [block_of_add]; exact hb, fun j u hu => ?_⟩
  rw [add_of_add]
  exact hcell _ u (by rw [← hu, List.getElem?_drop])
theorem Reads.of_own {base : Nat} {e : TypeId} {c : Nat} (h : w.ownsRow base e size (.slice A n c) n xs) : Reads w w.heap.size size A n xs := by
  refine ⟨h.1, fun hn => ?_⟩
  obtain ⟨g, cap, hv, _, hlt⟩ := h.form hn
  have hA : A = some ⟨g, 0, none⟩ := by injection hv
  subst hA
  exact ⟨_, rfl, hlt, h.cells (g := g) rfl⟩
end

section
variable {P : Program} (w : World)

theorem run_append_of_nil (base : Nat) (t ty e : TypeId) (i : TypeInfo) (size : Nat) (ht : P.underlying t = some (.slice e)) (hi : P.info? e = some i)
    (v : Value) (n : Nat) (xs : List Value) (hown : w.ownsRow base e size v n xs) (c : Nat) : (Builtin.append_ #[t, t] ty #[v, .slice none 0 c]).run P w = .ok v w := by
  rcases hown.2 with ⟨rfl, rfl⟩ | ⟨g, cap, cur, rfl, _, _, hnc, _⟩
  · simp [Builtin.append_, run_underlying ht, sizeOf, typeInfo, hi, Builtin.lenOf, Builtin.firstCells]
  · simp [Builtin.append_, run_underlying ht, sizeOf, typeInfo, hi, Builtin.lenOf, Builtin.firstCells, hnc, storeCells]

theorem run_append_any (base : Nat) (t ty e : TypeId) (i : TypeInfo) (z : Value) (size bytes : Nat) (ht : P.underlying t = some (.slice e)) (hi : P.info? e = some i) (hz : i.zero = some z)
    (hsize : i.size = size) (hby : i.bytes = bytes) (hzs : z.cells.size = size) (hsz : 0 < size)
    (v : Value) (n : Nat) (xs : List Value) (hown : w.ownsRow base e size v n xs)
    (B : Nat) (A : Option Addr) (m c : Nat) (news : List Value) (hr : Reads w B size A m news) (h1 : ∀ u ∈ news, u.oneCell' = true)
    (h63 : n + m ≤ maxLen) (hbytes : (n + m) * bytes ≤ 140737488355328) (hbase : base ≤ w.heap.size) :
    ∃ v' w', (Builtin.append_ #[t, t] ty #[v, .slice A m c]).run P w = .ok v' w' ∧ w'.ownsRow base e size v' (n + m) (xs ++ news) ∧ w.grownBy w' v.ownBlock ∧
      (v'.ownBlock = v.ownBlock ∨ v'.ownBlock = some w.heap.size) := by
  rcases A with _ | ad
  · have hm : m = 0 := by
      rcases Nat.eq_zero_or_pos m with h0 | h0
      · exact h0
      · obtain ⟨ad, h, _⟩ := hr.2 h0
        cases h
    subst hm
    have hn : news = [] := List.eq_nil_of_length_eq_zero (by simpa using hr.1)
    subst hn
    exact ⟨v, w, run_append_of_nil w base t ty e i size ht hi v n xs hown c, by simpa using hown, World.grownBy.refl w _, .inl rfl⟩
  · have hcells : ∀ j u, news[j]? = some u → w.cell? (ad.add j) = some u := by
      intro j u hu
      rcases Nat.eq_zero_or_pos m with h0 | h0
      · subst h0
        have hn : news = [] := List.eq_nil_of_length_eq_zero (by simpa using hr.1)
        subst hn
        simp at hu
      · obtain ⟨ad', h, _, hc⟩ := hr.2 h0
        injection h with h
        subst h
        exact hc j u hu
    obtain ⟨v', w', hrun, h2, h3, _, h5⟩ := run_append_own_at (P := P) w base t ty e i z size bytes ht hi hz hsize hby hzs hsz v n xs hown ad m c news hr.1 hcells h1 h63 hbytes hbase
    exact ⟨v', w', hrun, h2, h3, h5⟩

end
end Go.Gh

namespace Go.Gh
open Go Go.RowKit
set_option linter.unusedVariables false

/-! a row as plain lists of cells -/
def rowL {α : Type} (cs : α → List D) (xs : List α) : List (List D) := xs.map cs
/-- these values are these elements' cells, one after the other -/
structure FR (F : Fz) (w : World) (es : Nat) (L : List (List D)) (vs : List Value) : Prop where
  len : vs.length = L.length * es
  one : ∀ u, u ∈ vs → u.oneCell' = true
  el : ∀ (i : Nat) e, L[i]? = some e → e.length = es
  val : ∀ (i : Nat) e (j : Nat) x u, L[i]? = some e → e[j]? = some x → vs[i * es + j]? = some u → DR F w x u
theorem FR.keep {F F' : Fz} {w w' : World} {es : Nat} {L : List (List D)} {vs : List Value} (h : FR F w es L vs) (k : Keep F w F' w') : FR F' w' es L vs :=
  ⟨h.len, h.one, h.el, fun i e j x u a b c => (h.val i e j x u a b c).keep k⟩
theorem FR.append {F : Fz} {w : World} {es : Nat} {L L' : List (List D)} {vs vs' : List Value} (h : FR F w es L vs) (h' : FR F w es L' vs') : FR F w es (L ++ L') (vs ++ vs') := by
  refine ⟨by rw [List.length_append, List.length_append, h.len, h'.len, Nat.add_mul], fun u hu => (List.mem_append.1 hu).elim (h.one u) (h'.one u), fun i e a => ?_, fun i e j x u a b c => ?_⟩
  · rcases Nat.lt_or_ge i L.length with hi | hi
    · rw [List.getElem?_append_left hi] at a; exact h.el i e a
    · rw [List.getElem?_append_right hi] at a; exact h'.el _ e a
  · rcases Nat.lt_or_ge i L.length with hi | hi
    · rw [List.getElem?_append_left hi] at a
      have hj : j < es := by rw [← h.el i e a]; exact (List.getElem?_eq_some_iff.1 b).1
      rw [List.getElem?_append_left (by rw [h.len]; exact blk_idx hi hj)] at c
      exact h.val i e j x u a b c
    · rw [List.getElem?_append_right hi] at a
      have e1 : i * es + j - vs.length = (i - L.length) * es + j := by
        rw [h.len, Nat.sub_mul]
        have := Nat.mul_le_mul_right es hi
        omega
      rw [List.getElem?_append_right (by rw [h.len]; have := Nat.mul_le_mul_right es hi; omega), e1] at c
      exact h'.val _ e j x u a b c
theorem FR.nil (F : Fz) (w : World) (es : Nat) : FR F w es [] [] := ⟨by simp, fun u h => (by cases h), fun i e h => (by simp at h), fun i e j x u h => (by simp at h)⟩
theorem FR.take {F : Fz} {w : World} {es : Nat} {L : List (List D)} {vs : List Value} (h : FR F w es L vs) (n : Nat) : FR F w es (L.take n) (vs.take (n * es)) := by
  refine ⟨?_, fun u hu => h.one u (List.mem_of_mem_take hu), fun i e a => ?_, fun i e j x u a b c => ?_⟩
  · rw [List.length_take, List.length_take, h.len]
    rcases Nat.le_total n L.length with hn | hn
    · rw [Nat.min_eq_left hn, Nat.min_eq_left (Nat.mul_le_mul_right es hn)]
    · rw [Nat.min_eq_right hn, Nat.min_eq_right (Nat.mul_le_mul_right es hn)]
  · rw [List.getElem?_take] at a
    split at a
    · exact h.el i e a
    · cases a
  · rw [List.getElem?_take] at a c
    split at a
    · split at c
      · exact h.val i e j x u a b c
      · cases c
    · cases a

/-- what a slice value gives to read -/
def srcL (g : G) (H : Hp) : Option (Prop × List (List D) × Nat × List Nat) :=
  match g with
  | .d (.row df cs xs) => some (True, rowL cs xs, xs.length, [])
  | .d (.sc (.slice none 0 0)) => some (True, [], 0, [])
  | .sl b es i n =>
    match H b with
    | some (.row ty es' df cs xs fz) => some (es = es' ∧ i = 0 ∧ n = xs.length, rowL cs xs, xs.length, [b])
    | _ => none
  | _ => none
theorem row_FR {F : Fz} {w : World} {es : Nat} {α : Type} {cs : α → List D} {xs : List α} {r q : Nat} {arr : Array Value} {ty : TypeId} (h2 : arr.size = q * es) (h3 : xs.length ≤ q) (h4 : ∀ e, e ∈ xs → (cs e).length = es)
    (h5 : ∀ u, u ∈ arr.toList → u.oneCell' = true) (h6 : ∀ (i : Nat) e (j : Nat) x u, xs[i]? = some e → (cs e)[j]? = some x → arr[i * es + j]? = some u → DR F w x u) : FR F w es (rowL cs xs) (arr.toList.take (xs.length * es)) := by
  refine ⟨?_, fun u hu => h5 u (List.mem_of_mem_take hu), fun i e a => ?_, fun i e j x u a b c => ?_⟩
  · rw [List.length_take, rowL, List.length_map]
    have : arr.toList.length = q * es := by simpa using h2
    rw [this, Nat.min_eq_left (Nat.mul_le_mul_right es h3)]
  · simp only [rowL, List.getElem?_map] at a
    cases hx : xs[i]? with
    | none => rw [hx] at a; cases a
    | some y => rw [hx] at a; simp only [Option.map_some] at a; injection a with a; subst a; exact h4 y (List.mem_of_getElem? hx)
  · simp only [rowL, List.getElem?_map] at a
    cases hx : xs[i]? with
    | none => rw [hx] at a; cases a
    | some y =>
      rw [hx] at a; simp only [Option.map_some] at a; injection a with a; subst a
      rw [List.getElem?_take] at c
      split at c
      · exact h6 i y j x u hx b (by simpa using c)
      · cases c
theorem srcL_sound {g : G} {H : Hp} {pr : Prop} {L : List (List D)} {m : Nat} {fp : List Nat} (h : srcL g H = some (pr, L, m, fp)) (hp : pr) {ν : Nu} {F : Fz} {w : World} (hr : Rel ν F w H) {v : Value} (hv : VR ν F w g v) (es : Nat) (hz : 0 < es)
    (hes : ∀ (i : Nat) e, L[i]? = some e → e.length = es) : ∃ (A : Option Addr) (c : Nat) (vs : List Value), v = .slice A m c ∧ FR F w es L vs ∧ Reads w w.heap.size es A m vs := by
  unfold srcL at h
  split at h
  · rename_i α df cs xs
    simp only [Option.some.injEq, Prod.mk.injEq] at h
    obtain ⟨rfl, rfl, rfl, rfl⟩ := h
    obtain ⟨A, c, b, off, es', val, rfl, hA, hc, hl, hw, hF, hdr⟩ := hv.row_inv
    by_cases hx0 : xs = []
    · subst hx0
      exact ⟨A, c, [], rfl, FR.nil _ _ _, ⟨by simp, fun h => by simp at h⟩⟩
    · have hee : es' = es := by
        obtain ⟨y, ys, e⟩ := List.exists_cons_of_ne_nil hx0
        have h1 := hl y (by rw [e]; simp)
        have h2 := hes 0 (cs y) (by rw [e]; simp [rowL])
        omega
      subst hee
      have hvs : ∀ k, k < xs.length * es' → ∃ i e j x, k = i * es' + j ∧ j < es' ∧ xs[i]? = some e ∧ (cs e)[j]? = some x := fun k hk => by
        have hpos : 0 < es' := by
          rcases Nat.eq_zero_or_pos es' with h | h
          · rw [h, Nat.mul_zero] at hk; omega
          · exact h
        have hi : k / es' < xs.length := by rw [Nat.div_lt_iff_lt_mul hpos]; exact hk
        have hj : k % es' < es' := Nat.mod_lt _ hpos
        have hcl := hl xs[k / es'] (List.getElem_mem hi)
        refine ⟨k / es', xs[k / es'], k % es', (cs xs[k / es'])[k % es']'(by omega), ?_, hj, List.getElem?_eq_getElem hi, List.getElem?_eq_getElem _⟩
        rw [Nat.mul_comm]; exact (Nat.div_add_mod k es').symm
      have hgetv : ∀ k, k < xs.length * es' → ((List.range (xs.length * es')).map fun k => val (k / es') (k % es'))[k]? = some (val (k / es') (k % es')) := fun k hk => by
        rw [List.getElem?_map, List.getElem?_range hk]; rfl
      have hdm : ∀ i j, j < es' → (i * es' + j) / es' = i ∧ (i * es' + j) % es' = j := fun i j hj => by
        constructor
        · rw [Nat.mul_comm, Nat.mul_add_div (by omega), Nat.div_eq_of_lt hj, Nat.add_zero]
        · rw [Nat.mul_comm, Nat.mul_add_mod, Nat.mod_eq_of_lt hj]
      refine ⟨A, c, (List.range (xs.length * es')).map fun k => val (k / es') (k % es'), rfl, ⟨by simp [rowL], fun u hu => ?_, hes, fun i e j x u a b cc => ?_⟩, ⟨by simp, fun hpos => ?_⟩⟩
      · obtain ⟨k, hk⟩ := List.getElem?_of_mem hu
        have hlt : k < xs.length * es' := by
          have := (List.getElem?_eq_some_iff.1 hk).1; simpa using this
        obtain ⟨i, e, j, x, rfl, hj, h1, h2⟩ := hvs k hlt
        rw [hgetv _ hlt, (hdm i j hj).1, (hdm i j hj).2] at hk
        injection hk with hk; subst hk
        exact (hdr i e j x h1 h2).one
      · simp only [rowL, List.getElem?_map] at a
        cases hx : xs[i]? with
        | none => rw [hx] at a; cases a
        | some y =>
          rw [hx] at a; simp only [Option.map_some] at a; injection a with a; subst a
          have hj : j < es' := by rw [← hl y (List.mem_of_getElem? hx)]; exact (List.getElem?_eq_some_iff.1 b).1
          have hi := (List.getElem?_eq_some_iff.1 hx).1
          rw [hgetv _ (blk_idx hi hj), (hdm i j hj).1, (hdm i j hj).2] at cc
          injection cc with cc; subst cc
          exact hdr i y j x hx b
      · refine ⟨_, hA hx0, ?_, fun k u hu => ?_⟩
        · obtain ⟨y, ys, e⟩ := List.exists_cons_of_ne_nil hx0
          obtain ⟨i, e, j, x, h0, hj, h1, h2⟩ := hvs 0 (Nat.mul_pos (by rw [e]; simp) hz)
          exact World.block_lt_of_cell? w ⟨b, off + i * es' + j, none⟩ (hw i e j x h1 h2)
        · have hlt : k < xs.length * es' := by
            have := (List.getElem?_eq_some_iff.1 hu).1; simpa using this
          obtain ⟨i, e, j, x, rfl, hj, h1, h2⟩ := hvs k hlt
          rw [hgetv _ hlt, (hdm i j hj).1, (hdm i j hj).2] at hu
          injection hu with hu; subst hu
          rw [addr_add, ← Nat.add_assoc]; exact hw i e j x h1 h2
  · simp only [Option.some.injEq, Prod.mk.injEq] at h
    obtain ⟨rfl, rfl, rfl, rfl⟩ := h
    exact ⟨none, 0, [], hv.sc_eq.1, FR.nil _ _ _, Reads.none_⟩
  · rename_i b es1 i n
    split at h
    · rename_i α ty es2 df cs xs fz hH
      simp only [Option.some.injEq, Prod.mk.injEq] at h
      obtain ⟨rfl, rfl, rfl, rfl⟩ := h
      obtain ⟨rfl, rfl, rfl⟩ := hp
      obtain ⟨A, c, rfl, k1, k2, k3⟩ := hv.sl_inv
      rcases hr.blk b _ hH with ⟨_, e2, _⟩ | ⟨r, q, arr, e1, e2, e2', e3, e4, e5, e6, e7, _⟩
      · subst e2
        exact ⟨A, c, [], rfl, FR.nil _ _ _, ⟨by simp, fun h => by simp at h⟩⟩
      · have hfr := row_FR (F := F) (w := w) (r := r) (ty := ty) e3 e4 e5 e6 e7
        by_cases hx0 : xs = []
        · subst hx0
          exact ⟨A, c, [], rfl, FR.nil _ _ _, ⟨by simp, fun h => by simp at h⟩⟩
        · have hee : es1 = es := by
            obtain ⟨y, ys, e⟩ := List.exists_cons_of_ne_nil hx0
            have h1 := e5 y (by rw [e]; simp)
            have h2 := hes 0 (cs y) (by rw [e]; simp [rowL])
            omega
          subst hee
          refine ⟨A, c, _, rfl, hfr, ⟨by have := hfr.len; simpa [rowL] using this, fun hpos => ?_⟩⟩
          obtain ⟨r', q', f1, f2, _⟩ := k1 (List.length_pos_iff.2 hx0)
          rw [e1] at f1; injection f1 with f1; injection f1 with f1 f1'; subst f1
          refine ⟨_, f2, (Array.getElem?_eq_some_iff.1 e2).1, fun k u hu => ?_⟩
          rw [addr_add, Nat.zero_mul, Nat.zero_add, cell_at e2]
          rw [List.getElem?_take] at hu
          split at hu
          · simpa using hu
          · cases hu
    · cases h
  · cases h
end Go.Gh

namespace Go.Gh
open Go Go.RowKit
set_option linter.unusedVariables false

def delO : Option Nat → List (Nat × Option Blk)
  | none => []
  | some b => [(b, none)]
theorem look_cons_same {b : Option Blk} {l : List (Nat × Option Blk)} {H : Hp} {i : Nat} : look ((i, b) :: l) H i = b := by simp only [look, Nat.beq_refl, cond_true]
theorem look_cons_other {b : Option Blk} {l : List (Nat × Option Blk)} {H : Hp} {i j : Nat} (h : j ≠ i) : look ((i, b) :: l) H j = look l H j := by
  have : Nat.beq j i = false := by
    cases e : Nat.beq j i with
    | false => rfl
    | true => exact absurd (Nat.eq_of_beq_eq_true e) h
  simp only [look, this, cond_false]
theorem look_del {ob : Option Nat} {H : Hp} {j : Nat} (h : (look (delO ob) H j).isSome = true) : look (delO ob) H j = H j ∧ ob ≠ some j := by
  cases ob with
  | none => exact ⟨rfl, fun h => by cases h⟩
  | some b =>
    by_cases e : j = b
    · subst e; rw [delO, look_cons_same] at h; cases h
    · exact ⟨by rw [delO, look_cons_other e]; rfl, fun h => e (by injection h with h; exact h.symm)⟩

theorem Rel.moved {ν : Nu} {F F' : Fz} {w w' : World} {H : Hp} (hr : Rel ν F w H) {nx g k' : Nat} (hν : ν nx = none) (hHn : H nx = none) {ob : Option Nat} {blk : Blk}
    (hg : g = w.heap.size ∨ ∃ b k, ob = some b ∧ (H b).isSome = true ∧ ν b = some (g, k)) (hoth : ∀ r', r' < w.heap.size → r' ≠ g → w'.heap[r']? = w.heap[r']?) (hsize : w.heap.size ≤ w'.heap.size)
    (e1 : w'.os = w.os) (e2 : w'.tape = w.tape) (e3 : w'.output = w.output) (hk : Keep F w F' w') (hF' : ∀ b o, F' b o → F b o ∨ b = g) (hcell : ∀ o, F' g o → (w'.cell? ⟨g, o, none⟩).isSome = true)
    (hblk : BR (addNu ν nx g k') F' w' (some (g, k')) blk) :
    Rel (addNu ν nx g k') F' w' (look ((nx, some blk) :: delO ob) H) ∧ Evo ν F w H (addNu ν nx g k') F' w' (look ((nx, some blk) :: delO ob) H) := by
  have old : ∀ i, i ≠ nx → (look ((nx, some blk) :: delO ob) H i).isSome = true → look ((nx, some blk) :: delO ob) H i = H i ∧ (H i).isSome = true ∧ ob ≠ some i := fun i hi h => by
    rw [look_cons_other hi] at h ⊢
    obtain ⟨h1, h2⟩ := look_del h
    exact ⟨h1, by rw [← h1]; exact h, h2⟩
  have hne : ∀ i r k, (H i).isSome = true → ob ≠ some i → ν i = some (r, k) → r ≠ g ∧ r < w.heap.size := fun i r k hi ho e => by
    have hlt := hr.mine_lt ⟨i, k, hi, e⟩
    refine ⟨fun h => ?_, hlt⟩
    subst h
    rcases hg with hg | ⟨b, k2, hb, hb1, hb2⟩
    · omega
    · have := hr.inj i b r k k2 hi hb1 e hb2
      subst this; exact ho hb
  have hgF : g = w.heap.size → ∀ o, ¬ F g o := fun hg o ho => by have := hr.old_lt ho; omega
  refine ⟨⟨fun i j r ki kj hi hj ei ej => ?_, fun i b hi => ?_, fun b o ho => ?_⟩, ⟨hk, e1, e2, e3, hsize, fun r hrl hm => ?_, fun r hm => ?_, fun b o ho => ?_⟩⟩
  · by_cases x1 : i = nx <;> by_cases x2 : j = nx
    · rw [x1, x2]
    · obtain ⟨_, a2, a3⟩ := old j x2 hj
      subst x1
      rw [addNu_same] at ei; injection ei with ei; injection ei with ei1 ei2
      rw [addNu_other ν x2] at ej
      exact absurd ei1.symm (hne j r kj a2 a3 ej).1
    · obtain ⟨_, a2, a3⟩ := old i x1 hi
      subst x2
      rw [addNu_same] at ej; injection ej with ej; injection ej with ej1 ej2
      rw [addNu_other ν x1] at ei
      exact absurd ej1.symm (hne i r ki a2 a3 ei).1
    · obtain ⟨_, a2, _⟩ := old i x1 hi
      obtain ⟨_, c2, _⟩ := old j x2 hj
      rw [addNu_other ν x1] at ei; rw [addNu_other ν x2] at ej
      exact hr.inj i j r ki kj a2 c2 ei ej
  · by_cases x1 : i = nx
    · subst x1; rw [look_cons_same] at hi; injection hi with hi; subst hi; rw [addNu_same]; exact hblk
    · obtain ⟨a1, a2, a3⟩ := old i x1 (by rw [hi]; rfl)
      rw [hi] at a1
      rw [addNu_other ν x1]
      refine (hr.blk i b a1.symm).keep hk (More.add hν) (fun r k e => ?_) (fun r k e o => ⟨fun ho => ?_, fun ho => hk.sub _ _ ho⟩)
      · obtain ⟨n1, n2⟩ := hne i r k a2 a3 e; exact hoth r n2 n1
      · obtain ⟨n1, n2⟩ := hne i r k a2 a3 e
        rcases hF' r o ho with h | h
        · exact h
        · exact absurd h n1
  · by_cases x : b = g
    · subst x; exact hcell o ho
    · rcases hF' b o ho with h | h
      · rw [hk.same b o h]; exact hr.old b o h
      · exact absurd h x
  · refine hoth r hrl fun e => ?_
    rcases hg with hg | ⟨b, k2, hb, hb1, hb2⟩
    · omega
    · exact hm ⟨b, k2, hb1, by rw [hb2, e]⟩
  · obtain ⟨i, k, hi, ei⟩ := hm
    by_cases x1 : i = nx
    · subst x1
      rw [addNu_same] at ei; injection ei with ei; injection ei with ei1 ei2; subst ei1
      rcases hg with hg | ⟨b, k2, hb, hb1, hb2⟩
      · right; omega
      · exact .inl ⟨b, k2, hb1, hb2⟩
    · obtain ⟨_, a2, _⟩ := old i x1 hi
      rw [addNu_other ν x1] at ei
      exact .inl ⟨i, k, a2, ei⟩
  · rcases hF' b o ho with h | h
    · exact .inl h
    · subst h
      rcases hg with hg | ⟨b', k2, hb, hb1, hb2⟩
      · right; right; omega
      · exact .inr (.inl ⟨b', k2, hb1, hb2⟩)

/-- nothing but a name for no block -/
theorem Rel.unreal {ν : Nu} {F : Fz} {w : World} {H : Hp} (hr : Rel ν F w H) {nx : Nat} (hν : ν nx = none) (hHn : H nx = none) {ob : Option Nat} {α : Type} {ty es : Nat} {df : α} {cs : α → List D} :
    Rel ν F w (look ((nx, some (.row ty es df cs [] 0)) :: delO ob) H) ∧ Evo ν F w H ν F w (look ((nx, some (.row ty es df cs [] 0)) :: delO ob) H) := by
  have old : ∀ i, i ≠ nx → (look ((nx, some (Blk.row ty es df cs [] 0)) :: delO ob) H i).isSome = true → look ((nx, some (Blk.row ty es df cs [] 0)) :: delO ob) H i = H i ∧ (H i).isSome = true := fun i hi h => by
    rw [look_cons_other hi] at h ⊢
    obtain ⟨h1, h2⟩ := look_del h
    exact ⟨h1, by rw [← h1]; exact h⟩
  have nn : ∀ i r k, ν i = some (r, k) → i ≠ nx := fun i r k e h => by subst h; rw [hν] at e; cases e
  refine ⟨⟨fun i j r ki kj hi hj ei ej => hr.inj i j r ki kj (old i (nn i r ki ei) hi).2 (old j (nn j r kj ej) hj).2 ei ej, fun i b hi => ?_, hr.old⟩,
    ⟨Keep.refl _ _, rfl, rfl, rfl, Nat.le_refl _, fun _ _ _ => rfl, fun r hm => ?_, fun _ _ h => .inl h⟩⟩
  · by_cases x : i = nx
    · subst x; rw [look_cons_same] at hi; injection hi with hi; subst hi; rw [hν]; exact .inl ⟨rfl, rfl, rfl⟩
    · obtain ⟨a1, a2⟩ := old i x (by rw [hi]; rfl)
      rw [hi] at a1; exact hr.blk i b a1.symm
  · obtain ⟨i, k, hi, ei⟩ := hm
    exact .inl ⟨i, k, (old i (nn i r k ei) hi).2, ei⟩

theorem FR.BR {ν : Nu} {F : Fz} {w : World} {es : Nat} {α : Type} {df : α} {cs : α → List D} {zs : List α} {vs : List Value} (h : FR F w es (rowL cs zs) vs) {g k ty : Nat} {arr : Array Value} (h1 : w.heap[g]? = some (.cells arr ty (0, 0))) (h2 : k ≤ maxLen) (h3 : arr.size = k * es)
    (h4 : zs.length ≤ k) (h5 : arr.toList.take (zs.length * es) = vs) (h6 : ∀ u, u ∈ arr.toList → u.oneCell' = true) {fz : Nat} (h7 : ∀ o, F g o ↔ o < fz * es) (h8 : fz ≤ zs.length) : BR ν F w (some (g, k)) (.row ty es df cs zs fz) := by
  refine .inr ⟨g, k, arr, rfl, h1, h2, h3, h4, fun z hz => ?_, h6, fun i e j x u a b c => ?_, h7, h8⟩
  · obtain ⟨i, hi⟩ := List.getElem?_of_mem hz
    exact h.el i (cs z) (by simp [rowL, hi])
  · refine h.val i (cs e) j x u (by simp [rowL, a]) b ?_
    have hi := (List.getElem?_eq_some_iff.1 a).1
    have hj : j < es := by
      have := h.el i (cs e) (by simp [rowL, a])
      rw [← this]; exact (List.getElem?_eq_some_iff.1 b).1
    rw [← h5, List.getElem?_take, if_pos (blk_idx hi hj)]
    simpa using c

/-- the slice that is appended to -/
def dstL (el es : Nat) (g : G) (H : Hp) : Option (Prop × List (List D) × Nat × Option Nat × Nat) :=
  match g with
  | .d (.sc (.slice none 0 0)) => some (True, [], 0, none, 0)
  | .sl b es1 0 n =>
    match H b with
    | some (.row ty es' df cs xs fz) => some (es1 = es ∧ es' = es ∧ n = xs.length ∧ ty = el, rowL cs xs, xs.length, some b, fz)
    | _ => none
  | _ => none

theorem run_append_core {P : Program} {ν : Nu} {F : Fz} {w : World} {H : Hp} (hr : Rel ν F w H) {t tx ty el : TypeId} {e : TyE} (ht : P.underlying t = some (.slice el)) (ke : TyOK P el e) (hpos : 0 < e.size) (hb1 : 0 < e.bytes) (hz1 : allOne e.zero = true) (hzs : e.zero.cells.size = e.size)
    {gd : G} {prd : Prop} {Ld : List (List D)} {n : Nat} {ob : Option Nat} {fz : Nat} (hd : dstL el e.size gd H = some (prd, Ld, n, ob, fz)) (hpd : prd) {vd : Value} (hvd : VR ν F w gd vd)
    {x : Value} {m : Nat} {news : List Value} (hs : Src P e.size tx x m news w) {Ls : List (List D)} (hfs : FR F w e.size Ls news) (hbound : (n + m) * e.bytes ≤ 140737488355328)
    {α : Type} {df : α} {cs : α → List D} {zs : List α} (hzl : rowL cs zs = Ld ++ Ls) (hlen : zs.length = n + m) {nx : Nat} (hν : ν nx = none) (hHn : H nx = none) :
    ∃ (v' : Value) (w' : World) (ν' : Nu) (F' : Fz), (Builtin.append_ #[t, tx] ty #[vd, x]).run P w = .ok v' w' ∧ VR ν' F' w' (.sl nx e.size 0 (n + m)) v' ∧ Rel ν' F' w' (look ((nx, some (.row el e.size df cs zs fz)) :: delO ob) H) ∧
      More ν ν' ∧ (∀ i, ν' i ≠ ν i → i = nx) ∧ Evo ν F w H ν' F' w' (look ((nx, some (.row el e.size df cs zs fz)) :: delO ob) H) := by
  obtain ⟨i, hi, hi1, hi2, hi3⟩ := ke.info
  have hmax : n + m ≤ maxLen := by
    have : (n + m) * 1 ≤ (n + m) * e.bytes := Nat.mul_le_mul_left _ hb1
    unfold maxLen; omega
  -- the destination, as memory has it
  have hdst : ∃ (A : Option Addr) (c : Nat) (olds : List Value), vd = .slice A n c ∧ FR F w e.size Ld olds ∧ (Builtin.firstCells e.size n (.slice A n c)).run P w.drew = .ok olds.toArray w.drew ∧
      ((A = none ∧ n = 0 ∧ c = 0 ∧ fz = 0) ∨ ∃ b r arr, ob = some b ∧ (H b).isSome = true ∧ ν b = some (r, c) ∧ A = some ⟨r, 0, none⟩ ∧ w.heap[r]? = some (.cells arr el (0, 0)) ∧ c ≤ maxLen ∧ arr.size = c * e.size ∧ n ≤ c ∧ arr.toList.take (n * e.size) = olds ∧
        (∀ u, u ∈ arr.toList → u.oneCell' = true) ∧ (∀ o, F r o ↔ o < fz * e.size) ∧ fz ≤ n) := by
    unfold dstL at hd
    split at hd
    · simp only [Option.some.injEq, Prod.mk.injEq] at hd
      obtain ⟨rfl, rfl, rfl, rfl, rfl⟩ := hd
      exact ⟨none, 0, [], hvd.sc_eq.1, FR.nil _ _ _, run_firstCells_none w.drew e.size 0 0 0, .inl ⟨rfl, rfl, rfl, rfl⟩⟩
    · rename_i b es1 n1
      split at hd
      · rename_i β ty' es' df' cs' xs fz' hH
        simp only [Option.some.injEq, Prod.mk.injEq] at hd
        obtain ⟨rfl, rfl, rfl, rfl, rfl⟩ := hd
        obtain ⟨rfl, rfl, rfl, rfl⟩ := hpd
        obtain ⟨A, c, rfl, k1, k2, k3⟩ := hvd.sl_inv
        rcases hr.blk b _ hH with ⟨q1, q2, q3⟩ | ⟨r, q, arr, q1, q2, q2', q3, q4, q5, q6, q7, q8, q9⟩
        · subst q2; subst q3
          rcases k2 rfl rfl with ⟨r, k, f1, _⟩ | ⟨rfl, rfl⟩
          · rw [q1] at f1; cases f1
          · exact ⟨none, 0, [], rfl, FR.nil _ _ _, run_firstCells_none w.drew e.size 0 0 0, .inl ⟨rfl, rfl, rfl, rfl⟩⟩
        · have hfr := row_FR (F := F) (w := w) (r := r) (ty := ty') q3 q4 q5 q6 q7
          have hA : (A = some ⟨r, 0, none⟩ ∧ c = q) ∨ (A = none ∧ c = 0 ∧ xs.length = 0) := by
            rcases Nat.eq_zero_or_pos xs.length with h0 | h0
            · rcases k2 h0 rfl with ⟨r', k', f1, f2, f3⟩ | ⟨f1, f2⟩
              · rw [q1] at f1; injection f1 with f1; injection f1 with f1 f1'; subst f1; subst f1'; exact .inl ⟨f2, f3⟩
              · exact .inr ⟨f1, f2, h0⟩
            · obtain ⟨r', k', f1, f2, f3, f4⟩ := k1 h0
              rw [q1] at f1; injection f1 with f1; injection f1 with f1 f1'; subst f1; subst f1'
              rw [Nat.zero_mul] at f2; rw [Nat.sub_zero] at f4
              exact .inl ⟨f2, f4⟩
          rcases hA with ⟨rfl, rfl⟩ | ⟨rfl, rfl, h0⟩
          · refine ⟨_, c, _, rfl, hfr, ?_, .inr ⟨b, r, arr, rfl, by rw [hH]; rfl, q1, rfl, q2, q2', q3, q4, rfl, q6, q8, q9⟩⟩
            refine run_firstCells_some w.drew e.size xs.length ⟨r, 0, none⟩ xs.length c _ (by have := hfr.len; simpa [rowL] using this) (fun k u hu => ?_)
            rw [addr_add, Nat.zero_add]
            show w.cell? _ = _
            rw [cell_at q2]
            rw [List.getElem?_take] at hu
            split at hu
            · simpa using hu
            · cases hu
          · have hxs : xs = [] := List.eq_nil_of_length_eq_zero h0
            subst hxs
            have : fz' = 0 := by simpa using q9
            subst this
            exact ⟨none, 0, [], rfl, FR.nil _ _ _, run_firstCells_none w.drew e.size 0 0 0, .inl ⟨rfl, rfl, rfl, rfl⟩⟩
      · cases hd
    · cases hd
  obtain ⟨A, c, olds, rfl, hfo, hfirst, hcase⟩ := hdst
  have hfr := hfo.append hfs
  rw [← hzl] at hfr
  by_cases hroom : n + m ≤ c
  · rcases hcase with ⟨rfl, rfl, rfl, rfl⟩ | ⟨b, r, arr, rfl, hHb, q1, rfl, q2, q2', q3, q4, q5, q6, q8, q9⟩
    · -- nothing onto nothing
      have hm0 : m = 0 := by omega
      subst hm0
      have hz0 : zs = [] := List.eq_nil_of_length_eq_zero (by omega)
      subst hz0
      obtain ⟨h1, h2⟩ := hr.unreal (ob := ob) (ty := el) (es := e.size) (df := df) (cs := cs) hν hHn
      refine ⟨.slice none 0 0, w, ν, F, ?_, .sl _ _ _ _ _ _ (fun h => by omega) (fun _ _ => .inr ⟨rfl, rfl⟩) (Nat.le_refl _), h1, More.refl _, fun i hi => absurd rfl hi, h2⟩
      rcases hs.kind with ⟨e', hk⟩ | hk <;> simp [Builtin.append_, run_underlying ht, run_underlying hk, sizeOf, typeInfo, hi, hi1, hs.len, hs.cells]
    · -- there is room
      have hnl : news.length = m * e.size := hs.newsLen
      have hin : ∀ j, j < news.length → n * e.size + j < arr.size := fun j hj => by
        have : (n + m) * e.size ≤ c * e.size := Nat.mul_le_mul_right _ hroom
        rw [Nat.add_mul] at this; omega
      have hrun := run_append_room_src (P := P) w t tx ty el i ht hi r 0 n c x m news (by rw [hi1]; exact hs) hroom (fun j hj => by rw [hi1, Nat.zero_add, cell_at q2]; simp [hin j hj])
        (fun j hj => by simp [World.frozen?, q2])
      rw [hi1, Nat.zero_add] at hrun
      have hset : w.setCells r (n * e.size) news = w.setRow r (arr.toList.take (n * e.size) ++ news ++ arr.toList.drop (n * e.size + news.length)).toArray := by
        have s1 := run_storeCells_at (P := P) r (n * e.size) el news 0 arr w q2 (by
          have : (n + m) * e.size ≤ c * e.size := Nat.mul_le_mul_right _ hroom
          rw [Nat.add_mul] at this; omega) hs.one
        have s2 := run_storeCells_cells (P := P) r (n * e.size) news 0 w (fun j hj => by rw [Nat.add_zero, cell_at q2]; simp [hin j hj]) (fun j hj => by simp [World.frozen?, q2]) hs.one
        rw [s2] at s1
        simp only [Nat.add_zero] at s1
        injection s1
      rw [hset] at hrun
      generalize hvs : (arr.toList.take (n * e.size) ++ news ++ arr.toList.drop (n * e.size + news.length)) = vs at hrun
      have hal : arr.toList.length = c * e.size := by simpa using q3
      have hle : n * e.size + m * e.size ≤ c * e.size := by rw [← Nat.add_mul]; exact Nat.mul_le_mul_right _ hroom
      have hvl : vs.length = c * e.size := by
        rw [← hvs, List.length_append, List.length_append, List.length_take, List.length_drop, hnl, hal]; omega
      have hvt : vs.take ((n + m) * e.size) = olds ++ news := by
        rw [← hvs, ← q5, Nat.add_mul]
        rw [List.take_append_of_le_length (by rw [List.length_append, List.length_take, hnl, hal]; omega)]
        rw [List.take_of_length_le (by rw [List.length_append, List.length_take, hnl, hal]; omega)]
      have hw' := setRow_heap w r arr vs.toArray el (0, 0) q2
      have hk : Keep F w F (w.setRow r vs.toArray) := ⟨fun _ _ h => h, fun b' o' hb' => by
        by_cases hbr : b' = r
        · subst hbr
          have ho := (q8 o').1 hb'
          have hlt : o' < n * e.size := Nat.lt_of_lt_of_le ho (Nat.mul_le_mul_right _ q9)
          rw [cell_at hw', cell_at q2]
          have : vs[o']? = arr.toList[o']? := by
            rw [← hvs, List.append_assoc, List.getElem?_append_left (by rw [List.length_take, hal]; omega), List.getElem?_take, if_pos hlt]
          simpa using this
        · simp only [World.cell?, setRow_other w r b' _ hbr]⟩
      have hbr : BR (addNu ν nx r c) F (w.setRow r vs.toArray) (some (r, c)) (.row el e.size df cs zs fz) :=
        (hfr.keep hk).BR hw' q2' (by simp [hvl]) (by omega) (by simp only [hlen]; exact hvt) (fun u hu => by
          have hu' : u ∈ vs := by simpa using hu
          rw [← hvs] at hu'
          rcases List.mem_append.1 hu' with h | h
          · rcases List.mem_append.1 h with h | h
            · exact q6 u (List.mem_of_mem_take h)
            · exact hs.one u h
          · exact q6 u (List.mem_of_mem_drop h)) q8 (by omega)
      obtain ⟨h1, h2⟩ := hr.moved hν hHn (ob := some b) (g := r) (k' := c) (.inr ⟨b, c, rfl, hHb, q1⟩) (fun r' _ hr' => setRow_other w r r' _ hr') (by simp [World.setRow]) rfl rfl rfl hk (fun _ _ h => .inl h) (fun o ho => by rw [hk.same r o ho]; exact hr.old r o ho) hbr
      refine ⟨_, _, addNu ν nx r c, F, hrun, ?_, h1, More.add hν, fun i hi => ?_, h2⟩
      · exact .sl _ _ _ _ _ _ (fun _ => ⟨r, c, addNu_same _ _ _ _, by rw [Nat.zero_mul], by omega, by omega⟩) (fun _ _ => .inl ⟨r, c, addNu_same _ _ _ _, rfl, rfl⟩) hroom
      · exact Classical.byContradiction fun hne => hi (addNu_other ν hne)
  · -- a new row
    have hfit := growslice_fits (need := n + m) (old := c) (bytes := e.bytes) (by omega) hbound
    have hrun := run_append_grow_src (P := P) w t tx ty el i e.zero ht hi hi3 A n c olds (by rw [hi1]; exact hfirst) x m news (by rw [hi1]; exact hs) (by omega) (by unfold maxLen at hmax; omega) (by rw [hi2]; exact hfit)
    generalize hcap : grownCap w (n + m) c el = cap at hrun
    have hcge : n + m ≤ cap := by rw [← hcap]; exact grownCap_ge _ _ _ _
    have hcle : cap ≤ maxLen := by rw [← hcap]; exact grownCap_le_maxLen _ _ _ _ hmax
    have hzc : (Builtin.zeroCells e.zero.cells (cap - (n + m))).size = (cap - (n + m)) * e.size := by simp [Builtin.zeroCells, hzs]
    generalize hzr : Builtin.zeroCells e.zero.cells (cap - (n + m)) = zr at hrun hzc
    have hz1' : ∀ u, u ∈ zr.toList → u.oneCell' = true := fun u hu => by
      rw [← hzr] at hu
      simp only [Builtin.zeroCells, Array.toList_map, List.mem_map] at hu
      obtain ⟨q, hq, rfl⟩ := hu
      have hlt : q % e.zero.cells.size < e.zero.cells.size := Nat.mod_lt _ (by omega)
      simp only [allOne, List.all_eq_true] at hz1
      have : e.zero.cells[q % e.zero.cells.size]! = e.zero.cells[q % e.zero.cells.size]'hlt := by simp [hlt]
      rw [this]
      exact hz1 _ (by simp)
    generalize harr : (olds ++ news).toArray ++ zr = arr' at hrun
    have hon : (olds ++ news).length = (n + m) * e.size := by rw [hfr.len, rowL, List.length_map, hlen]
    have hsz : arr'.size = cap * e.size := by
      rw [← harr, Array.size_append, hzc]
      simp only [List.size_toArray, hon]
      rw [← Nat.add_mul]
      congr 1; omega
    have hw' : (w.drew.alloc (.cells arr' el)).heap[w.heap.size]? = some (.cells arr' el (0, 0)) := heap_alloc_new w.drew _
    let F' : Fz := fun b o => F b o ∨ (b = w.heap.size ∧ o < fz * e.size)
    have hfzn : fz ≤ n := by rcases hcase with ⟨_, h1, _, h2⟩ | ⟨b, r, arr, _, _, _, _, _, _, _, _, _, _, _, h⟩ <;> omega
    have hk : Keep F w F' (w.drew.alloc (.cells arr' el)) := ⟨fun _ _ h => .inl h, fun b' o' hb' => by
      have := World.cell?_alloc_lt w.drew (.cells arr' el) ⟨b', o', none⟩ (hr.old_lt hb')
      exact this⟩
    have hcells : ∀ o, o < arr'.size → ((w.drew.alloc (.cells arr' el)).cell? ⟨w.heap.size, o, none⟩).isSome = true := fun o ho => by rw [cell_at hw']; simp [ho]
    have hfzs : fz * e.size ≤ arr'.size := by rw [hsz]; exact Nat.mul_le_mul_right _ (by omega)
    have hbr : BR (addNu ν nx w.heap.size cap) F' (w.drew.alloc (.cells arr' el)) (some (w.heap.size, cap)) (.row el e.size df cs zs fz) :=
      (hfr.keep hk).BR hw' hcle hsz (by omega) (by
        rw [← harr, hlen, Array.toList_append]
        rw [List.take_append_of_le_length (by simp only [hon]; exact Nat.le_refl _), List.take_of_length_le (by simp only [hon]; exact Nat.le_refl _)]) (fun u hu => by
          rw [← harr, Array.toList_append] at hu
          rcases List.mem_append.1 hu with h | h
          · exact hfr.one u (by simpa using h)
          · exact hz1' u h) (fun o => ⟨fun ho => by
            rcases ho with ho | ho
            · have := hr.old_lt ho; omega
            · exact ho.2, fun ho => .inr ⟨rfl, ho⟩⟩) (by omega)
    obtain ⟨h1, h2⟩ := hr.moved hν hHn (ob := ob) (g := w.heap.size) (k' := cap) (w' := w.drew.alloc (.cells arr' el)) (F' := F') (.inl rfl) (fun r' hr' _ => Below.heap_alloc w.drew _ r' hr') (by simp) rfl rfl rfl hk
      (fun b o h => h.imp id (fun h => h.1)) (fun o ho => hcells o (by
        rcases ho with ho | ho
        · have := hr.old_lt ho; omega
        · have := ho.2; omega)) hbr
    refine ⟨_, _, addNu ν nx w.heap.size cap, F', hrun, ?_, h1, More.add hν, fun i hi => ?_, h2⟩
    · exact .sl _ _ _ _ _ _ (fun _ => ⟨w.heap.size, cap, addNu_same _ _ _ _, by rw [Nat.zero_mul], by omega, by omega⟩) (fun _ _ => .inl ⟨w.heap.size, cap, addNu_same _ _ _ _, rfl, rfl⟩) hcge
    · exact Classical.byContradiction fun hne => hi (addNu_other ν hne)
end Go.Gh
