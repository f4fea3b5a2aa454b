/- A logic of calls without memory (3 of 3). -/
import Derived.Test.YtfbijgbpipedoaaGreatDoorGh2
import Derived.KernelRfl
import Derived.Lib.LaidTab
namespace Go.Gh
open Go Go.RowKit
set_option linter.unusedVariables false

theorem gw_rounds [Laid] {P : Program} {nt p : Nat} {σ : St} {Q : Exit → St → Prop} {c : Code} {α : Type 1} (inv : α → St) (m : α → Nat) (a0 : α) (hw : ∀ ν F a w, RS σ ν F a w nt p → ∃ ν', RS (inv a0) ν' F a w nt p ∧ Evo ν F w σ.H ν' F w (inv a0).H ∧ ∀ i, i < p → ν' i = ν i)
    (h : ∀ x, GW P nt p c (inv x) (Exit.thenS (fun σ' => ∃ x', m x' < m x ∧ ∀ ν F a w, RS σ' ν F a w nt p → ∃ ν', RS (inv x') ν' F a w nt p ∧ Evo ν F w σ'.H ν' F w (inv x').H ∧ ∀ i, i < p → ν' i = ν i) Q)) : GW P nt p (.loop c) σ Q := by
  classical
  intro ν F a w hr
  obtain ⟨ν0, r0, e0, p0⟩ := hw ν F a w hr
  let Good (n : Nat) (a' : Act) (w' : World) : Prop := ∃ (x : α) (ν' : Nu) (F' : Fz), m x = n ∧ RS (inv x) ν' F' a' w' nt p ∧ Evo ν F w σ.H ν' F' w' (inv x).H ∧ ∀ i, i < p → ν' i = ν i
  let μ (a' : Act) (w' : World) : Nat := if h : ∃ n, Good n a' w' then Classical.choose (least h) else 0
  have hm : ∀ a' w', (∃ n, Good n a' w') → Good (μ a' w') a' w' ∧ ∀ k, Good k a' w' → μ a' w' ≤ k := fun a' w' h => by
    have e : μ a' w' = Classical.choose (least h) := dif_pos h
    rw [e]
    exact Classical.choose_spec (least h)
  refine wp_loop (fun a' w' => ∃ n, Good n a' w') μ ⟨_, a0, ν0, F, rfl, r0, e0, p0⟩ ?_
  intro a1 w1 hg
  obtain ⟨⟨x, ν1, F1, hn, hr1, he1, hp1⟩, hmin⟩ := hm a1 w1 hg
  refine GPost.from (h x) hr1 he1 hp1 fun e a2 w2 ⟨σ2, ν2, F2, q, r2, e2, p2⟩ => ?_
  cases e with
  | normal =>
    obtain ⟨x', hlt, hx'⟩ := q
    obtain ⟨ν3, r3, e3, p3⟩ := hx' ν2 F2 a2 w2 r2
    have hg2 : Good (m x') a2 w2 := ⟨x', ν3, F2, rfl, r3, e2.trans e3, fun i hi => (p3 i hi).trans (p2 i hi)⟩
    refine ⟨⟨_, hg2⟩, ?_⟩
    have h1 := (hm a2 w2 ⟨_, hg2⟩).2 _ hg2
    rw [← hn]
    omega
  | exit id => exact ⟨σ2, ν2, F2, q, r2, e2, p2⟩
  | goto l => exact ⟨σ2, ν2, F2, q, r2, e2, p2⟩
  | ret => exact ⟨σ2, ν2, F2, q, r2, e2, p2⟩
  | panic ch => exact ⟨σ2, ν2, F2, q, r2, e2, p2⟩
  | outgrown => exact ⟨σ2, ν2, F2, q, r2, e2, p2⟩

theorem Weak.rs [Laid] {nt p : Nat} {ρ : Nat → Nat} {σ τ : St} (hw : Weak p ρ σ τ) {ν : Nu} {F : Fz} {a : Act} {w : World} (hr : RS σ ν F a w nt p) : ∃ ν', RS τ ν' F a w nt p ∧ Evo ν F w σ.H ν' F w τ.H ∧ ∀ i, i < p → ν' i = ν i := by
  have hH : ∀ i b, τ.H i = some b → σ.H (ρ i) = some (b.ren ρ) ∧ b.lt τ.next = true ∧ i < τ.next := fun i b hb => wkH_get τ.hp hw.heap hb
  have hk : ∀ i, i < τ.next → cutNu τ.next ρ ν i = ν (ρ i) := fun i hi => if_pos hi
  refine ⟨cutNu τ.next ρ ν, ⟨hw.pin, fun t => wkT_get (hr.vals t) τ.tmps hw.tmps, ⟨fun i j r k k' hi hj e e' => ?_, fun i b hb => ?_, hr.rel.old, hr.rel.glob⟩, hr.defers, fun i hi => if_neg (by omega), hr.size, fun i hi => ?_⟩,
    ⟨Keep.refl _ _, rfl, rfl, rfl, Nat.le_refl _, fun _ _ _ => rfl, fun r hm => .inl ?_, fun _ _ h => .inl h⟩, (fun i hi => ?_)⟩
  · obtain ⟨b, hb⟩ := Option.isSome_iff_exists.1 hi
    obtain ⟨b', hb'⟩ := Option.isSome_iff_exists.1 hj
    obtain ⟨a1, _, a3⟩ := hH i b hb
    obtain ⟨c1, _, c3⟩ := hH j b' hb'
    rw [hk i a3] at e
    rw [hk j c3] at e'
    exact hw.one i j hi hj (hr.rel.inj _ _ r k k' (by rw [a1]; rfl) (by rw [c1]; rfl) e e')
  · obtain ⟨a1, a2, a3⟩ := hH i b hb
    rw [hk i a3]
    exact (hr.rel.blk _ _ a1).ren a2
  · cases hb : τ.H i with
    | none => rfl
    | some b => have := (hH i b hb).2.2; omega
  · obtain ⟨i, k, hi, e⟩ := hm
    obtain ⟨b, hb⟩ := Option.isSome_iff_exists.1 hi
    obtain ⟨a1, _, a3⟩ := hH i b hb
    rw [hk i a3] at e
    exact ⟨ρ i, k, by rw [a1]; rfl, e⟩
  · have := hw.pin
    rw [hk i (by omega), hw.par i hi]

/-! two values alike, but for what is still to be shown -/
def eqV : Value → Value → Option (List Prop)
  | .int k a, .int k' b => bif kindEq k k' then some [a = b] else none
  | .bool a, .bool b => some [a = b]
  | .string a, .string b => some [a = b]
  | a, b => some [a = b]
theorem eqV_sound {a b : Value} {ps : List Prop} (h : eqV a b = some ps) (hp : AllP ps) : a = b := by
  unfold eqV at h
  split at h
  · rename_i k x k' y
    cases hk : kindEq k k' with
    | false => rw [hk] at h; cases h
    | true =>
      rw [hk] at h; cases h
      rw [kindEq_spec hk, show x = y from hp]
  · cases h; rw [show _ = _ from hp]
  · cases h; rw [show _ = _ from hp]
  · cases h; exact hp
/-- g gives g' -/
def entG (ρ : Nat → Nat) : G → G → Option (List Prop)
  | _, .junk => some []
  | .d (.sc a), .d (.sc b) => eqV a b
  | .d x, .d y => some [x = y]
  | .ptr b es i f, .ptr b' es' i' f' => bif Nat.beq b (ρ b') && Nat.beq es es' && Nat.beq f f' then some [i = i'] else none
  | .sl b es i n, .sl b' es' i' n' => bif Nat.beq b (ρ b') && Nat.beq es es' && Nat.beq i i' then some [n = n'] else none
  | .mp b, .mp b' => bif Nat.beq b (ρ b') then some [] else none
  | g, g' => some [g = g'.ren ρ]
theorem entG_sound {ρ : Nat → Nat} {g g' : G} {ps : List Prop} (h : entG ρ g g' = some ps) (hp : AllP ps) : Ent g (g'.ren ρ) := by
  unfold entG at h
  split at h
  · exact Ent.junk _
  · refine Ent.of_eq ?_
    rw [eqV_sound h hp]; rfl
  · cases h
    exact Ent.of_eq (by rw [show _ = _ from hp]; rfl)
  · rename_i b es i f b' es' i' f'
    cases hb : (Nat.beq b (ρ b') && Nat.beq es es' && Nat.beq f f') with
    | false => rw [hb] at h; cases h
    | true =>
      rw [hb] at h; cases h
      simp only [Bool.and_eq_true] at hb
      refine Ent.of_eq ?_
      rw [show i = i' from hp, Nat.eq_of_beq_eq_true hb.1.1, Nat.eq_of_beq_eq_true hb.1.2, Nat.eq_of_beq_eq_true hb.2]
      rfl
  · rename_i b es i n b' es' i' n'
    cases hb : (Nat.beq b (ρ b') && Nat.beq es es' && Nat.beq i i') with
    | false => rw [hb] at h; cases h
    | true =>
      rw [hb] at h; cases h
      simp only [Bool.and_eq_true] at hb
      refine Ent.of_eq ?_
      rw [show n = n' from hp, Nat.eq_of_beq_eq_true hb.1.1, Nat.eq_of_beq_eq_true hb.1.2, Nat.eq_of_beq_eq_true hb.2]
      rfl
  · rename_i b b'
    cases hb : Nat.beq b (ρ b') with
    | false => rw [hb] at h; cases h
    | true => exact Ent.of_eq (by rw [Nat.eq_of_beq_eq_true hb]; rfl)
  · cases h; exact Ent.of_eq hp
def wkTO (ρ : Nat → Nat) (n : Nat) (tm : List (Nat × G)) : List (Nat × G) → Option (List Prop)
  | [] => some []
  | (t, g) :: l => bif g.lt n then match entG ρ (getG tm t) g, wkTO ρ n tm l with
      | some p, some q => some (catP p q)
      | _, _ => none
    else none
def eqL (ρ : Nat → Nat) : List G → List G → Option (List Prop)
  | [], [] => some []
  | g :: l, g' :: l' => match eqG ρ g g', eqL ρ l l' with
    | some p, some q => some (catP p q)
    | _, _ => none
  | _, _ => none
  where eqG (ρ : Nat → Nat) : G → G → Option (List Prop)
  | .d (.sc a), .d (.sc b) => eqV a b
  | .d x, .d y => some [x = y]
  | .ptr b es i f, .ptr b' es' i' f' => bif Nat.beq b (ρ b') && Nat.beq es es' && Nat.beq f f' then some [i = i'] else none
  | .sl b es i n, .sl b' es' i' n' => bif Nat.beq b (ρ b') && Nat.beq es es' && Nat.beq i i' then some [n = n'] else none
  | g, g' => some [g = g'.ren ρ]
def wkB (ρ : Nat → Nat) : Option Blk → Blk → Option (List Prop)
  | some (.box cs), .box cs' => eqL ρ cs cs'
  | some (.row ty es df cs xs fz), .row ty' es' df' cs' xs' fz' => bif Nat.beq ty ty' && Nat.beq es es' then some [Blk.row ty es df cs xs fz = Blk.row ty es df' cs' xs' fz'] else none
  | some (.mp L), .mp L' => some [L = L']
  | _, _ => none
def wkHO (ρ : Nat → Nat) (n : Nat) (hp : List (Nat × Option Blk)) : List (Nat × Option Blk) → Option (List Prop)
  | [] => some []
  | (i, some b) :: l => bif b.lt n && Nat.ble (i + 1) n then match wkB ρ (look hp noHp (ρ i)) b, wkHO ρ n hp l with
      | some p, some q => some (catP p q)
      | _, _ => none
    else none
  | (_, none) :: l => wkHO ρ n hp l
def oneO (ρ : Nat → Nat) : List (Nat × Option Blk) → Bool
  | [] => true
  | (i, _) :: l => (l.all fun q => Nat.beq i q.1 || !Nat.beq (ρ i) (ρ q.1)) && oneO ρ l
def parO (ρ : Nat → Nat) : Nat → Bool
  | 0 => true
  | n + 1 => Nat.beq (ρ n) n && parO ρ n
def weakO (p : Nat) (ρ : Nat → Nat) (σ τ : St) : Option (List Prop) :=
  match τ with
  | ⟨tm', hp', n'⟩ => bif oneO ρ hp' && parO ρ p && Nat.ble p n' then match wkTO ρ n' σ.tmps tm', wkHO ρ n' σ.hp hp' with
      | some a, some b => some (catP a b)
      | _, _ => none
    else none
theorem eqL_sound {ρ : Nat → Nat} : ∀ {l l' : List G} {ps : List Prop}, eqL ρ l l' = some ps → AllP ps → l = G.renL ρ l' := by
  intro l
  induction l with
  | nil => intro l' ps h _; cases l' with
    | nil => rfl
    | cons => simp [eqL] at h
  | cons g l ih =>
    intro l' ps h hp
    cases l' with
    | nil => simp [eqL] at h
    | cons g' l' =>
      simp only [eqL] at h
      split at h
      · rename_i p q h1 h2
        cases h
        obtain ⟨q1, q2⟩ := catP_spec hp
        rw [ih h2 q2, G.renL]
        congr 1
        unfold eqL.eqG at h1
        split at h1
        · rw [eqV_sound h1 q1]; rfl
        · cases h1; rw [show _ = _ from q1]; rfl
        · rename_i b es i f b' es' i' f'
          cases hb : (Nat.beq b (ρ b') && Nat.beq es es' && Nat.beq f f') with
          | false => rw [hb] at h1; cases h1
          | true =>
            rw [hb] at h1; cases h1
            simp only [Bool.and_eq_true] at hb
            rw [show i = i' from q1, Nat.eq_of_beq_eq_true hb.1.1, Nat.eq_of_beq_eq_true hb.1.2, Nat.eq_of_beq_eq_true hb.2]
            rfl
        · rename_i b es i n b' es' i' n'
          cases hb : (Nat.beq b (ρ b') && Nat.beq es es' && Nat.beq i i') with
          | false => rw [hb] at h1; cases h1
          | true =>
            rw [hb] at h1; cases h1
            simp only [Bool.and_eq_true] at hb
            rw [show n = n' from q1, Nat.eq_of_beq_eq_true hb.1.1, Nat.eq_of_beq_eq_true hb.1.2, Nat.eq_of_beq_eq_true hb.2]
            rfl
        · cases h1; exact q1
      · cases h
theorem wkTO_sound {ρ : Nat → Nat} {n : Nat} {σ : St} : ∀ {l : List (Nat × G)} {ps : List Prop}, wkTO ρ n σ.tmps l = some ps → AllP ps → wkT ρ n σ l := by
  intro l
  induction l with
  | nil => intro ps _ _; trivial
  | cons x l ih =>
    obtain ⟨t, g⟩ := x
    intro ps h hp
    simp only [wkTO] at h
    cases hl : g.lt n with
    | false => rw [hl] at h; cases h
    | true =>
      rw [hl] at h
      simp only [cond_true] at h
      split at h
      · rename_i p q h1 h2
        cases h
        obtain ⟨q1, q2⟩ := catP_spec hp
        exact ⟨⟨⟨_, rfl, entG_sound h1 q1⟩, hl⟩, ih h2 q2⟩
      · cases h
theorem wkHO_sound {ρ : Nat → Nat} {n : Nat} {σ : St} : ∀ {l : List (Nat × Option Blk)} {ps : List Prop}, wkHO ρ n σ.hp l = some ps → AllP ps → wkH ρ n σ l := by
  intro l
  induction l with
  | nil => intro ps _ _; trivial
  | cons x l ih =>
    obtain ⟨i, ob⟩ := x
    intro ps h hp
    cases ob with
    | none => exact ih h hp
    | some b =>
      simp only [wkHO] at h
      cases hl : (b.lt n && Nat.ble (i + 1) n) with
      | false => rw [hl] at h; cases h
      | true =>
        rw [hl] at h
        simp only [cond_true] at h
        simp only [Bool.and_eq_true] at hl
        split at h
        · rename_i p q h1 h2
          cases h
          obtain ⟨q1, q2⟩ := catP_spec hp
          refine ⟨⟨?_, hl.1, Nat.le_of_ble_eq_true hl.2⟩, ih h2 q2⟩
          show look σ.hp noHp (ρ i) = _
          unfold wkB at h1
          split at h1
          · rename_i cs cs' e
            rw [e, eqL_sound h1 q1]; rfl
          · rename_i α ty es df cs xs fz β ty' es' df' cs' xs' fz' e
            cases hb : (Nat.beq ty ty' && Nat.beq es es') with
            | false => rw [hb] at h1; cases h1
            | true =>
              rw [hb] at h1; cases h1
              simp only [Bool.and_eq_true] at hb
              rw [e, show _ = _ from q1, Nat.eq_of_beq_eq_true hb.1, Nat.eq_of_beq_eq_true hb.2]
              rfl
          · rename_i L L' e
            cases h1
            rw [e, show L = L' from q1]
            rfl
          · cases h1
        · cases h
theorem oneO_sound {ρ : Nat → Nat} : ∀ {l : List (Nat × Option Blk)}, oneO ρ l = true → ∀ i j, i ∈ l.map (·.1) → j ∈ l.map (·.1) → ρ i = ρ j → i = j := by
  intro l
  induction l with
  | nil => intro _ i j h; simp at h
  | cons x l ih =>
    obtain ⟨k, ob⟩ := x
    intro h i j hi hj e
    simp only [oneO, Bool.and_eq_true, List.all_eq_true] at h
    simp only [List.map_cons, List.mem_cons] at hi hj
    have key : ∀ y, y ∈ l.map (·.1) → ρ k = ρ y → k = y := fun y hy e => by
      obtain ⟨q, hq1, hq2⟩ := List.mem_map.1 hy
      have := h.1 q hq1
      rw [hq2] at this
      simp only [Bool.or_eq_true, Bool.not_eq_true'] at this
      rcases this with h | h
      · exact Nat.eq_of_beq_eq_true h
      · rw [e, Nat.beq_refl] at h; cases h
    rcases hi with rfl | hi <;> rcases hj with rfl | hj
    · rfl
    · exact key j hj e
    · exact (key i hi e.symm).symm
    · exact ih h.2 i j hi hj e
theorem look_dom {l : List (Nat × Option Blk)} {i : Nat} (h : (look l noHp i).isSome = true) : i ∈ l.map (·.1) := by
  exact Classical.byContradiction fun hn => by rw [look_other _ _ _ hn] at h; cases h
theorem weakO_sound {p : Nat} {ρ : Nat → Nat} {σ τ : St} {ps : List Prop} (h : weakO p ρ σ τ = some ps) (hp : AllP ps) : Weak p ρ σ τ := by
  obtain ⟨tm', hp', n'⟩ := τ
  simp only [weakO] at h
  cases hb : (oneO ρ hp' && parO ρ p && Nat.ble p n') with
  | false => rw [hb] at h; cases h
  | true =>
    rw [hb] at h
    simp only [cond_true] at h
    simp only [Bool.and_eq_true] at hb
    split at h
    · rename_i a b h1 h2
      cases h
      obtain ⟨q1, q2⟩ := catP_spec hp
      refine ⟨wkTO_sound h1 q1, wkHO_sound h2 q2, fun i j hi hj e => oneO_sound hb.1.1 i j (look_dom hi) (look_dom hj) e, ?_, Nat.le_of_ble_eq_true hb.2⟩
      have hpar := hb.1.2
      clear h1 h2 hp q1 q2 hb
      induction p with
      | zero => intro i hi; omega
      | succ p ih =>
        simp only [parO, Bool.and_eq_true] at hpar
        intro i hi
        by_cases e : i = p
        · subst e; exact Nat.eq_of_beq_eq_true hpar.1
        · exact ih hpar.2 i (by omega)
    · cases h

/-- a loop: what holds at each round's head, by a parameter; what goes down -/
theorem gw_for [Laid] {P : Program} {nt p : Nat} {σ : St} {Q : Exit → St → Prop} {c : Code} {α : Type 1} (inv : α → St) (m : α → Nat) (a0 : α) (ρ : Nat → Nat) {ps : List Prop} (h0 : weakO p ρ σ (inv a0) = some ps) (hp : AllP ps)
    (h : ∀ x, GW P nt p c (inv x) (Exit.thenS (fun σ' => ∃ x' ρ' qs, weakO p ρ' σ' (inv x') = some qs ∧ AllP qs ∧ m x' < m x) Q)) : GW P nt p (.loop c) σ Q :=
  gw_rounds inv m a0 (fun ν F a w hr => (weakO_sound h0 hp).rs hr) fun x => gw_mono (h x) fun e σ' hq => by
    cases e with
    | normal =>
      obtain ⟨x', ρ', qs, h1, h2, h3⟩ := hq
      exact ⟨x', h3, fun ν F a w hr => (weakO_sound h1 h2).rs hr⟩
    | _ => exact hq
/-- go on from a weaker state -/
theorem gw_cut [Laid] {P : Program} {nt p : Nat} {c : Code} {σ : St} (τ : St) (ρ : Nat → Nat) {Q : Exit → St → Prop} {ps : List Prop} (h0 : weakO p ρ σ τ = some ps) (hp : AllP ps) (h : GW P nt p c τ Q) : GW P nt p c σ Q :=
  gw_weak ρ (weakO_sound h0 hp) h
end Go.Gh

namespace Go.Gh
open Go Go.RowKit
set_option linter.unusedVariables false

theorem size_pos {s : ByteArray} (h : ¬ s = ⟨#[]⟩) : (0 : Int) < s.size := by
  rcases Nat.eq_zero_or_pos s.size with h0 | h0
  · refine absurd ?_ h
    cases s with | mk d =>
    have : d.size = 0 := h0
    rw [Array.eq_empty_of_size_eq_zero this]
  · omega
theorem toN : (∀ n : Nat, Int.toNat (n : Int) = n) ∧ Int.toNat 0 = 0 ∧ Int.toNat 1 = 1 := ⟨fun _ => rfl, rfl, rfl⟩
/-- how conditions read -/
theorem bb : (∀ (q : Prop) (i : Decidable q), (@decide q i = true) = q) ∧ (∀ (q : Prop) (i : Decidable q), (@decide q i = false) = ¬ q) ∧ (∀ a b : Bool, ((a && b) = true) = (a = true ∧ b = true)) ∧ (∀ a b : Bool, ((a || b) = true) = (a = true ∨ b = true)) ∧
    (∀ a b : Bool, ((a && b) = false) = (a = false ∨ b = false)) ∧ (∀ a b : Bool, ((a || b) = false) = (a = false ∧ b = false)) ∧ (∀ a : Bool, ((!a) = true) = (a = false)) ∧ (∀ a : Bool, ((!a) = false) = (a = true)) ∧ (∀ q : Prop, (¬ ¬ q) = q) ∧ (∀ (a b : Int), (¬ a < b) = (b ≤ a)) ∧ (∀ (a b : Int), (¬ a ≤ b) = (b < a)) ∧ (∀ a b : Bool, (bif a then b else false) = (a && b)) ∧ (∀ a b : Bool, (bif a then true else b) = (a || b)) :=
  ⟨fun q i => by simp, fun q i => by simp, fun a b => by simp, fun a b => by simp, fun a b => by cases a <;> cases b <;> simp, fun a b => by simp, fun a => by simp, fun a => by simp, fun q => by simp, fun a b => by simp, fun a b => by simp, fun a b => by cases a <;> rfl, fun a b => by cases a <;> rfl⟩
/-- what is still to be done behind a piece of code -/
inductive Kont : Type 1
  | seq (c : Code)
  | block (id : Nat)
  | goal (T : St → Prop)
section
variable (P : Program) (nt p : Nat) (R : Exit → St → Prop)
def kQ [Laid] : List Kont → Exit → St → Prop
  | [], e, σ => R e σ
  | .seq y :: K, e, σ => Exit.thenS (fun σ' => GW P nt p y σ' (kQ K)) (kQ K) e σ
  | .block id :: K, e, σ => Exit.blockS id (kQ K) e σ
  | .goal T :: K, e, σ => Exit.thenS T (kQ K) e σ
def GK [Laid] (c : Code) (K : List Kont) (σ : St) : Prop :=
  match c with
  | .skip => kQ P nt p R K .normal σ
  | .exit id => kQ P nt p R K (.exit id) σ
  | .ret => kQ P nt p R K .ret σ
  | c => GW P nt p c σ (kQ P nt p R K)
end
variable {P : Program} {nt p : Nat} {R : Exit → St → Prop} {c c' : Code} {K K' : List Kont} {σ : St}
theorem GK.gw [Laid] (h : GK P nt p R c K σ) : GW P nt p c σ (kQ P nt p R K) := by
  cases c <;> first | exact gw_skip h | exact gw_exit h | exact gw_ret h | exact h
/-- the steps of control alone -/
def nrm : Nat → Code → List Kont → Option (Code × List Kont)
  | 0, _, _ => none
  | n + 1, .seq x y, K => nrm n x (.seq y :: K)
  | n + 1, .block id c, K => nrm n c (.block id :: K)
  | n + 1, .label _, K => nrm n .skip K
  | n + 1, .skip, .seq y :: K => nrm n y K
  | n + 1, .skip, .block _ :: K => nrm n .skip K
  | n + 1, .exit id, .seq _ :: K => nrm n (.exit id) K
  | n + 1, .exit id, .goal _ :: K => nrm n (.exit id) K
  | n + 1, .exit id, .block j :: K => bif Nat.beq id j then nrm n .skip K else nrm n (.exit id) K
  | _ + 1, c, K => some (c, K)
theorem nrm_sound [Laid] : ∀ {n : Nat} {c : Code} {K : List Kont}, nrm n c K = some (c', K') → GK P nt p R c' K' σ → GK P nt p R c K σ := by
  intro n
  induction n with
  | zero => intro c K h; cases h
  | succ n ih =>
    intro c K h hk
    unfold nrm at h
    split at h
    · rename_i e; cases e
    · rename_i e; cases e; exact gw_seq (ih h hk).gw
    · rename_i e; cases e; exact gw_block (ih h hk).gw
    · rename_i e; cases e; exact gw_label (ih h hk)
    · rename_i e; cases e; exact (ih h hk).gw
    · rename_i e; cases e; exact (ih h hk : GK P nt p R .skip _ σ)
    · rename_i id y K1 e; cases e; exact (ih h hk : GK P nt p R (.exit id) K1 σ)
    · rename_i id y K1 e; cases e; exact (ih h hk : GK P nt p R (.exit id) K1 σ)
    · rename_i id j K1 e
      cases e
      show (if id = j then kQ P nt p R K1 .normal σ else kQ P nt p R K1 (.exit id) σ)
      cases hb : Nat.beq id j with
      | true =>
        rw [hb] at h
        rw [if_pos (Nat.eq_of_beq_eq_true hb)]
        exact (ih h hk : GK P nt p R .skip K1 σ)
      | false =>
        rw [hb] at h
        rw [if_neg (fun e => by rw [e, Nat.beq_refl] at hb; cases hb)]
        exact (ih h hk : GK P nt p R (.exit id) K1 σ)
    · cases h; exact hk
theorem kQ_ret [Laid] {σ : St} : ∀ (K : List Kont), R .ret σ → kQ P nt p R K .ret σ := by
  intro K
  induction K with
  | nil => exact id
  | cons k K ih => intro h; cases k <;> exact ih h

/-- blocks: each once, those that are gone left out -/
def nfH (seen : List Nat) : List (Nat × Option Blk) → Option (List (Nat × Option Blk))
  | [] => some []
  | (i, ob) :: l => match seen.any (fun j => Nat.beq i j), ob, nfH (i :: seen) l with
    | true, _, _ => nfH seen l
    | false, some b, some r => some ((i, some b) :: r)
    | false, none, some r => some r
    | _, _, none => none
theorem nfH_look : ∀ (l : List (Nat × Option Blk)) (seen : List Nat) (r : List (Nat × Option Blk)), nfH seen l = some r → ∀ i, look r noHp i = if i ∈ seen then none else look l noHp i := by
  intro l
  induction l with
  | nil => intro seen r h i; cases h; show none = _; split <;> rfl
  | cons x l ih =>
    obtain ⟨k, ob⟩ := x
    intro seen r h i
    have hlk : look ((k, ob) :: l) noHp i = if i = k then ob else look l noHp i := by
      show (bif Nat.beq i k then _ else _) = _
      cases hb : Nat.beq i k with
      | true => rw [if_pos (Nat.eq_of_beq_eq_true hb)]; rfl
      | false => rw [if_neg (fun e => by rw [e, Nat.beq_refl] at hb; cases hb)]; rfl
    have hseen : (seen.any fun j => Nat.beq k j) = true ↔ k ∈ seen := by
      rw [List.any_eq_true]
      exact ⟨fun ⟨j, h1, h2⟩ => by rw [Nat.eq_of_beq_eq_true h2]; exact h1, fun h => ⟨k, h, Nat.beq_refl k⟩⟩
    rw [hlk]
    simp only [nfH] at h
    split at h
    · rename_i h1
      rw [ih _ _ h]
      have := hseen.1 h1
      by_cases hi : i ∈ seen
      · rw [if_pos hi, if_pos hi]
      · rw [if_neg hi, if_neg hi, if_neg (fun e => hi (by rw [e]; exact this))]
    · rename_i b r' h1 h3
      cases h
      have hk : ¬ k ∈ seen := fun e => by rw [hseen.2 e] at h1; cases h1
      show (bif Nat.beq i k then some b else look r' noHp i) = _
      cases hb : Nat.beq i k with
      | true => have := Nat.eq_of_beq_eq_true hb; subst this; rw [if_neg hk, if_pos rfl]; rfl
      | false =>
        have hne : i ≠ k := fun e => by rw [e, Nat.beq_refl] at hb; cases hb
        rw [if_neg hne]
        show look r' noHp i = _
        rw [ih _ _ h3]
        by_cases hi : i ∈ seen
        · rw [if_pos hi, if_pos (List.mem_cons_of_mem _ hi)]
        · rw [if_neg hi, if_neg (fun e => by rcases List.mem_cons.1 e with e | e <;> contradiction)]
    · rename_i r' h1 h3
      cases h
      have hk : ¬ k ∈ seen := fun e => by rw [hseen.2 e] at h1; cases h1
      rw [ih _ _ h3]
      by_cases hi : i ∈ seen
      · rw [if_pos hi, if_pos (List.mem_cons_of_mem _ hi)]
      · rw [if_neg hi]
        by_cases hne : i = k
        · rw [if_pos hne, if_pos (by rw [hne]; exact List.mem_cons_self)]
        · rw [if_neg hne, if_neg (fun e => by rcases List.mem_cons.1 e with e | e <;> contradiction)]
    · cases h
theorem nfH_eq {l r : List (Nat × Option Blk)} (h : nfH [] l = some r) : look r noHp = look l noHp := funext fun i => by rw [nfH_look l [] r h]; simp
/-- the obligations, written out -/
def nfP : List Prop → Option (List Prop)
  | [] => some []
  | p :: l => match nfP l with
    | some l' => some (p :: l')
    | none => none
theorem nfP_eq : ∀ {l l' : List Prop}, nfP l = some l' → l = l' := by
  intro l
  induction l with
  | nil => intro l' h; cases h; rfl
  | cons p l ih =>
    intro l' h
    simp only [nfP] at h
    split at h
    · rename_i l'' e; cases h; rw [ih e]
    · cases h
theorem gw_keep [Laid] {σ : St} {tm' tm1 : List (Nat × G)} {h1 h2 : List (Nat × Option Blk)} {n1 : Nat} {kp : List Nat} {Q : Exit → St → Prop} (h : GW P nt p c σ (fun e σ' => e = .normal ∧ σ' = ⟨tm1, h1, n1⟩)) (hk : keepT tm1 kp = some tm') (hh : nfH [] h1 = some h2) (hq : Q .normal ⟨tm', h2, n1⟩) : GW P nt p c σ Q :=
  fun ν F a w hr => wp_mono (h ν F a w hr) fun e a' w' ⟨σ', ν', F', ⟨x1, x2⟩, r, e1, p1⟩ => by
    subst x1 x2
    have e : St.H ⟨tm', h2, n1⟩ = St.H ⟨tm1, h1, n1⟩ := nfH_eq hh
    exact ⟨⟨tm', h2, n1⟩, ν', F', hq, ⟨r.pin, fun t => keepT_get (r.vals t) kp tm' hk, e ▸ r.rel, r.defers, r.free, r.size, e ▸ r.fresh⟩, e ▸ e1, p1⟩
/-- a region is reckoned -/
theorem gk_region [Laid] {T : Tab} (env : Env P T) (wr : Bool) (hs : List (Hint P)) (kp : List Nat) {id : Nat} {ops : Array Oper} {draw : Bool} {tm tm' tm1 : List (Nat × G)} {h0 h1 h2 : List (Nat × Option Blk)} {n n1 : Nat} {feet : List Foot} {pr pr' : List Prop} {hs' : List (Hint P)}
    (hq : GK P nt p R c' K' ⟨tm', h2, n1⟩) (h : runG P wr T nt ops ops.toList tm h0 n [] hs = some (pr, ⟨tm1, h1, n1⟩, feet, hs') := by rfl) (hok : regOk ops nt draw feet = true := by kernel_rfl) (hk : keepT tm1 kp = some tm' := by rfl) (hh : nfH [] h1 = some h2 := by rfl) (hn : nrm 1000 .skip K = some (c', K') := by rfl) (hf : nfP pr = some pr' := by rfl)
    (hp : AllP pr' := by first | trivial | (simp only [AllP, bb, toN]; repeat' first | exact trivial | exact EntL.refl _ | exact rfl | omega | apply And.intro | intro _ | exact size_pos (by simp_all; done))) : GK P nt p R (.region id ops draw) K ⟨tm, h0, n⟩ :=
  gw_keep (gw_region1 env wr hs h hok (nfP_eq hf ▸ hp) ⟨rfl, rfl⟩) hk hh (nrm_sound hn hq : GK P nt p R .skip K _)
theorem gk_if [Laid] {x y x' y' : Code} {K1 K2 : List Kont} {o : Operand} {b : Bool} (h1 : b = true → GK P nt p R x' K1 σ) (h2 : b = false → GK P nt p R y' K2 σ) (hc : σ.ev o = .d (.sc (.bool b)) := by rfl) (n1 : nrm 1000 x K = some (x', K1) := by rfl) (n2 : nrm 1000 y K = some (y', K2) := by rfl) : GK P nt p R (.cond o x y) K σ :=
  gw_cond hc (fun e => (nrm_sound n1 (h1 e)).gw) (fun e => (nrm_sound n2 (h2 e)).gw)
theorem gk_ifd [Laid] {x y x' y' : Code} {K1 K2 : List Kont} {o : Operand} {q : Prop} {inst : Decidable q} (h1 : q → GK P nt p R x' K1 σ) (h2 : ¬ q → GK P nt p R y' K2 σ) (hc : σ.ev o = .d (.sc (.bool (@decide q inst))) := by rfl) (n1 : nrm 1000 x K = some (x', K1) := by rfl) (n2 : nrm 1000 y K = some (y', K2) := by rfl) : GK P nt p R (.cond o x y) K σ :=
  gk_if (fun h => h1 (of_decide_eq_true h)) (fun h => h2 (of_decide_eq_false h)) hc n1 n2
theorem gk_ifn [Laid] {x y x' y' : Code} {K1 K2 : List Kont} {o : Operand} {q : Prop} {inst : Decidable q} (h1 : ¬ q → GK P nt p R x' K1 σ) (h2 : q → GK P nt p R y' K2 σ) (hc : σ.ev o = .d (.sc (.bool (!@decide q inst))) := by rfl) (n1 : nrm 1000 x K = some (x', K1) := by rfl) (n2 : nrm 1000 y K = some (y', K2) := by rfl) : GK P nt p R (.cond o x y) K σ :=
  gk_if (fun h => h1 (by simpa using h)) (fun h => h2 (by simpa using h)) hc n1 n2
def isWork : Code → Bool
  | .skip => false
  | .exit _ => false
  | .ret => false
  | _ => true
theorem gk_work [Laid] (hw : isWork c = true) (h : GW P nt p c σ (kQ P nt p R K)) : GK P nt p R c K σ := by
  cases c <;> first | exact h | cases hw
theorem VR.nil_row {ν : Nu} {F : Fz} {w : World} {n es : Nat} {v : Value} (h : VR ν F w (.d (.sc (.slice none 0 0))) v) : VR ν F w (.sl n es 0 0) v := by
  cases h with
  | d h => cases h with
    | sc _ _ => exact .sl _ _ _ _ _ _ (fun h => absurd h (Nat.lt_irrefl _)) (fun _ _ => .inr ⟨rfl, rfl⟩) (Nat.le_refl _)
/-- a nil slice gets a name of its own -/
theorem RS.nil [Laid] {tm tm' : List (Nat × G)} {hp hp' : List (Nat × Option Blk)} {n ty es : Nat} {α : Type} {df : α} {cs : α → List D} {ν : Nu} {F : Fz} {a : Act} {w : World} (h : RS ⟨tm, hp, n⟩ ν F a w nt p) (ht : ∀ t v, VR ν F w (getG tm t) v → VR ν F w (getG tm' t) v)
    (hh : ∀ i b, look hp' noHp i = some b → (look hp noHp i).isSome = true ∧ BR ν F w (ν i) b ∨ i = n ∧ b = .row ty es df cs [] 0) (hd : ∀ i, i ≠ n → (look hp noHp i).isSome = false → look hp' noHp i = none) :
    RS ⟨tm', hp', n + 1⟩ ν F a w nt p ∧ Evo ν F w (St.H ⟨tm, hp, n⟩) ν F w (St.H ⟨tm', hp', n + 1⟩) := by
  have hn : ν n = none := h.free n (Nat.le_refl _)
  have hsome : ∀ i, (look hp' noHp i).isSome = true → (look hp noHp i).isSome = true ∨ i = n := fun i hi => by
    obtain ⟨b, hb⟩ := Option.isSome_iff_exists.1 hi
    rcases hh i b hb with h | h
    · exact .inl h.1
    · exact .inr h.1
  refine ⟨⟨Nat.le_succ_of_le h.pin, fun t => ht t _ (h.vals t), ⟨fun i j r k k' hi hj e e' => ?_, fun i b hb => ?_, h.rel.old, h.rel.glob⟩, h.defers, fun i hi => h.free i (Nat.le_of_succ_le hi), h.size, fun i hi => ?_⟩,
    ⟨Keep.refl _ _, rfl, rfl, rfl, Nat.le_refl _, fun _ _ _ => rfl, fun r hm => ?_, fun _ _ h => .inl h⟩⟩
  · rcases hsome i hi with hi | rfl
    · rcases hsome j hj with hj | rfl
      · exact h.rel.inj i j r k k' hi hj e e'
      · rw [hn] at e'; cases e'
    · rw [hn] at e; cases e
  · rcases hh i b hb with h | ⟨rfl, rfl⟩
    · exact h.2
    · rw [hn]; exact .inl ⟨rfl, rfl, rfl⟩
  · have h1 := h.fresh i (Nat.le_of_succ_le hi)
    exact hd i (by show i ≠ n; have : n + 1 ≤ i := hi; omega) (by rw [show look hp noHp i = none from h1]; rfl)
  · obtain ⟨i, k, hi, e⟩ := hm
    rcases hsome i hi with hi | rfl
    · exact .inl ⟨i, k, hi, e⟩
    · rw [hn] at e; cases e
theorem gk_nil [Laid] (t ty es : Nat) {α : Type} (df : α) (cs : α → List D) {tm : List (Nat × G)} {hp : List (Nat × Option Blk)} {n : Nat} (hw : isWork c = true) (ht : getG tm t = .d (.sc (.slice none 0 0))) (h : GK P nt p R c K ⟨(t, .sl n es 0 0) :: tm, (n, some (.row ty es df cs [] 0)) :: hp, n + 1⟩) : GK P nt p R c K ⟨tm, hp, n⟩ := by
  refine gk_work hw fun ν F a w hr => ?_
  have hl : ∀ i, look ((n, some (.row ty es df cs [] 0)) :: hp) noHp i = if i = n then some (.row ty es df cs [] 0) else look hp noHp i := fun i => by
    show (bif Nat.beq i n then _ else _) = _
    cases hb : Nat.beq i n with
    | true => rw [if_pos (Nat.eq_of_beq_eq_true hb)]; rfl
    | false => rw [if_neg (fun e => by rw [e, Nat.beq_refl] at hb; cases hb)]; rfl
  obtain ⟨r2, e2⟩ := hr.nil (tm' := (t, .sl n es 0 0) :: tm) (hp' := (n, some (.row ty es df cs [] 0)) :: hp) (ty := ty) (es := es) (df := df) (cs := cs) (fun t' v hv => by
      show VR ν F w (bif Nat.beq t' t then _ else _) v
      cases hb : Nat.beq t' t with
      | true => rw [Nat.eq_of_beq_eq_true hb, ht] at hv; exact hv.nil_row
      | false => exact hv)
    (fun i b hb => by
      rw [hl] at hb
      split at hb
      · rename_i e; cases hb; exact .inr ⟨e, rfl⟩
      · exact .inl ⟨by rw [hb]; rfl, hr.rel.blk i b hb⟩)
    (fun i hi hs => by rw [hl, if_neg hi]; exact Option.isNone_iff_eq_none.1 (by rw [← Option.not_isSome, hs]; rfl))
  exact GPost.from h.gw r2 e2 (fun _ _ => rfl) (fun _ _ _ h => h)
/-- which names stand for which, read off the slots and the boxes -/
def pairG : G → G → List (Nat × Nat) → List (Nat × Nat)
  | .ptr b _ _ _, .ptr b' _ _ _, r => (b', b) :: r
  | .sl b _ _ _, .sl b' _ _ _, r => (b', b) :: r
  | .mp b, .mp b', r => (b', b) :: r
  | _, _, r => r
def pairL : List G → List G → List (Nat × Nat) → List (Nat × Nat)
  | g :: l, g' :: l', r => pairG g g' (pairL l l' r)
  | _, _, r => r
def pairT (tm : List (Nat × G)) : List (Nat × G) → List (Nat × Nat)
  | [] => []
  | (t, g) :: l => pairG (getG tm t) g (pairT tm l)
def pairH (h h' : List (Nat × Option Blk)) : List (Nat × Nat) → List (Nat × Nat) → List (Nat × Nat)
  | [], r => r
  | (b', b) :: l, r => match look h noHp b, look h' noHp b' with
    | some (.box cs), some (.box cs') => pairL cs cs' (pairH h h' l r)
    | _, _ => pairH h h' l r
def nfN : List (Nat × Nat) → Option (List (Nat × Nat))
  | [] => some []
  | (a, b) :: l => match Nat.beq a b, nfN l with
    | true, some l' => some l'
    | false, some l' => some ((a, b) :: l')
    | _, none => none
def rhoF : List (Nat × Nat) → Nat → Nat
  | [], i => i
  | (a, b) :: l, i => bif Nat.beq i a then b else rhoF l i
def weakA (p : Nat) (σ τ : St) : Option (List Prop) :=
  match σ, τ with
  | ⟨tm, h, n⟩, ⟨tm', h', n'⟩ => match nfN (pairH h h' (pairT tm tm') (pairT tm tm')) with
    | some l => weakO p (rhoF l) ⟨tm, h, n⟩ ⟨tm', h', n'⟩
    | none => none
theorem weakA_sound {σ τ : St} {ps : List Prop} (h : weakA p σ τ = some ps) : ∃ ρ, weakO p ρ σ τ = some ps := by
  unfold weakA at h
  split at h
  split at h
  · exact ⟨_, h⟩
  · cases h
/-- a state that is one of a family -/
def To {α : Type} (p : Nat) (I : α → Prop) (inv : α → St) (σ : St) : Prop := ∃ x ρ ps, weakO p ρ σ (inv x) = some ps ∧ I x ∧ AllP ps
theorem gk_goal [Laid] {α : Type} {I : α → Prop} {inv : α → St} (x : α) {ps ps' : List Prop} (hI : I x) (h : weakA p σ (inv x) = some ps := by rfl) (hf : nfP ps = some ps' := by rfl) (hp : AllP ps' := by simp [AllP]) : GK P nt p R .skip (.goal (To p I inv) :: K) σ := (weakA_sound h).elim fun ρ h => ⟨x, ρ, ps, h, hI, nfP_eq hf ▸ hp⟩
def appT {α : Type 1} : List α → List α → Option (List α)
  | [], l => some l
  | x :: k, l => match appT k l with
    | some r => some (x :: r)
    | none => none
/-- several ways meet -/
theorem gk_join [Laid] {α : Type} (I : α → Prop) (inv : α → St) {o : Operand} {x y : Code} (h2 : ∀ x, I x → GK P nt p R c' K' (inv x)) (h1 : GK P nt p R (.cond o x y) (.goal (To p I inv) :: K) σ) (hn : nrm 1000 .skip K = some (c', K') := by rfl) : GK P nt p R (.cond o x y) K σ :=
  fun ν F a w hr => wp_mono (h1.gw ν F a w hr) fun e a' w' ⟨σ', ν', F', q, r, e1, p1⟩ => by
    cases e with
    | normal =>
      obtain ⟨x, ρ, ps, h, hI, hp⟩ := q
      obtain ⟨ν2, r2, e2, p2⟩ := (weakO_sound h hp).rs r
      exact ⟨inv x, ν2, F', (nrm_sound hn (h2 x hI) : GK P nt p R .skip K _), r2, e1.trans e2, fun i hi => (p2 i hi).trans (p1 i hi)⟩
    | _ => exact ⟨σ', ν', F', q, r, e1, p1⟩
def dropT (ks : List Nat) : List (Nat × G) → List (Nat × G)
  | [] => []
  | (t, g) :: l => bif ks.any (fun j => Nat.beq t j) then dropT ks l else (t, g) :: dropT ks l
/-- a state with some slots and blocks laid over -/
def St.over (σ : St) (tm : List (Nat × G)) (hp : List (Nat × Option Blk)) : Option St :=
  match σ with
  | ⟨a, b, n⟩ => match appT tm (dropT (tm.map (·.1)) a), appT hp b with
    | some a', some b' => match nfH [] b' with
      | some b2 => some ⟨a', b2, n⟩
      | none => none
    | _, _ => none
def ToL {α : Type} (p : Nat) (I : α → Prop) (inv : α → St) (m : α → Nat) (x : α) (σ : St) : Prop := ∃ x' ρ ps, weakO p ρ σ (inv x') = some ps ∧ I x' ∧ m x' < m x ∧ AllP ps
theorem gk_round [Laid] {α : Type} {I : α → Prop} {inv : α → St} {m : α → Nat} {x : α} (x' : α) {ps ps' : List Prop} (hI : I x') (h : weakA p σ (inv x') = some ps := by rfl) (hf : nfP ps = some ps' := by rfl) (hm : m x' < m x := by omega) (hp : AllP ps' := by simp [AllP]) : GK P nt p R .skip (.goal (ToL p I inv m x) :: K) σ := (weakA_sound h).elim fun ρ h => ⟨x', ρ, ps, h, hI, hm, nfP_eq hf ▸ hp⟩
theorem gk_loop [Laid] {α : Type} (I : α → Prop) (ch : α → List (Nat × G)) (chH : α → List (Nat × Option Blk)) (m : α → Nat) (a0 : α) {inv : α → St} {ps ps' : List Prop} {K1 : α → List Kont} (hI : I a0) (h : ∀ x, I x → GK P nt p R c' (K1 x) (inv x)) (hi : ∀ x, σ.over (ch x) (chH x) = some (inv x) := by exact fun _ => rfl) (h0 : weakA p σ (inv a0) = some ps := by rfl) (hf : nfP ps = some ps' := by rfl) (hn : ∀ x, nrm 1000 c (.goal (ToL p I inv m x) :: K) = some (c', K1 x) := by exact fun _ => rfl)
    (hp : AllP ps' := by simp [AllP]) : GK P nt p R (.loop c) K σ :=
  (weakA_sound h0).elim fun ρ h0 => gw_for (α := ULift {x : α // I x}) (fun x => inv x.down.1) (fun x => m x.down.1) ⟨a0, hI⟩ ρ h0 (nfP_eq hf ▸ hp) fun x => gw_mono (nrm_sound (hn x.down.1) (h x.down.1 x.down.2)).gw fun e σ' hq => by
    cases e with
    | normal =>
      obtain ⟨x', ρ', qs, h1, h2, h3, h4⟩ := hq
      exact ⟨⟨x', h2⟩, ρ', qs, h1, h4, h3⟩
    | _ => exact hq
theorem gk_ret [Laid] {T : Tab} (env : Env P T) {fn : Func} {ps ps' : List Prop} {gs : List G} {g : G} (he : tupG gs = g) (h : retO T σ fn.results.toList = some (ps, gs) := by rfl) (hf : nfP ps = some ps' := by rfl) (hp : AllP ps' := by first | trivial | simp [AllP]) : GK P nt p (fun e σ => Ends e ∧ RetOK P fn σ g) .ret K σ :=
  kQ_ret K ⟨.inr rfl, done env h (nfP_eq hf ▸ hp) (Ent.of_eq he)⟩
theorem gk_end [Laid] {T : Tab} (env : Env P T) {fn : Func} {ps ps' : List Prop} {gs : List G} {g : G} (he : tupG gs = g) (h : retO T σ fn.results.toList = some (ps, gs) := by rfl) (hf : nfP ps = some ps' := by rfl) (hp : AllP ps' := by first | trivial | simp [AllP]) : GK P nt p (fun e σ => Ends e ∧ RetOK P fn σ g) .skip [] σ :=
  ⟨.inl rfl, done env h (nfP_eq hf ▸ hp) (Ent.of_eq he)⟩
theorem gc_of_gk [Laid] {f : FuncId} {fn : Func} {c : Code} {args : List G} {g : G} (hf : P.funcs[f]? = some fn)
    (h : GK P fn.ntmps 0 (fun e σ => Ends e ∧ RetOK P fn σ g) c' K' ⟨argT 0 args, [], 0⟩) (hb : fn.body = some c := by rfl) (hname : (fn.name == "runtime.NumGoroutine") = false := by rfl) (hargs : G.ltL 0 args = true := by rfl) (hlen : Nat.ble args.length fn.ntmps = true := by rfl) (hg : g.lt 0 = true := by rfl) (hn : nrm 1000 c [] = some (c', K') := by rfl) : GC P f args g :=
  gc_of_gw hf hb hname hargs hlen hg (nrm_sound hn h : GK P fn.ntmps 0 _ c [] _).gw
abbrev iG (i : Int) : G := .d (.sc (.int .i64 i))
abbrev cG (i : Int) : G := .d (.sc (.int .u8 i))
abbrev bG (b : Bool) : G := .d (.sc (.bool b))
abbrev sG (s : ByteArray) : G := .d (.sc (.string s))
abbrev fG (k : Nat) : G := .d (.sc (.func (.func k) #[] #[]))
end Go.Gh

namespace Go.Gh
open Go Go.RowKit
set_option linter.unusedVariables false

/-! a call told of in the elder words -/
def gV : G → Option Value
  | .d (.sc v) => bif v.oneCell' then some v else none
  | .agg cs => match cellV cs with
    | some r => some (.agg r.toArray)
    | none => none
  | _ => none
def gVs : List G → Option (List Value)
  | [] => some []
  | g :: l => match gV g, gVs l with
    | some v, some r => some (v :: r)
    | _, _ => none
def resV : G → Option Value
  | .tup gs => match gVs gs with
    | some r => some (.tuple r.toArray)
    | none => none
  | g => gV g
theorem gV_iff {ν : Nu} {F : Fz} {w : World} {g : G} {v : Value} (h : gV g = some v) : VR ν F w g v ∧ ∀ u, VR ν F w g u → u = v := by
  unfold gV at h
  split at h
  · rename_i v'
    cases hv : v'.oneCell' with
    | false => rw [hv] at h; cases h
    | true =>
      rw [hv] at h
      cases h
      exact ⟨.d (.sc _ hv), fun u hu => by cases hu with | d hd => cases hd; rfl⟩
  · split at h
    · rename_i cs r hr
      cases h
      obtain ⟨h1, h2, h3, h4⟩ := cellV_iff (ν := ν) (F := F) (w := w) hr
      refine ⟨.agg _ _ (by simp [h1]) (by simpa using h2) (fun j g u a b => h3 j g u a (by simpa using b)), fun u hu => ?_⟩
      cases hu with
      | agg cs' arr e1 e2 k =>
        have := h4 arr.toList (by simpa using e1) (fun j g u a b => k j g u a (by simpa using b))
        rw [← this]
    · cases h
  · cases h
theorem gVs_iff {ν : Nu} {F : Fz} {w : World} : ∀ {gs : List G} {r : List Value}, gVs gs = some r → r.length = gs.length ∧ (∀ (j : Nat) g u, gs[j]? = some g → r[j]? = some u → VR ν F w g u) ∧
    ∀ us : List Value, us.length = gs.length → (∀ (j : Nat) g u, gs[j]? = some g → us[j]? = some u → VR ν F w g u) → us = r := by
  intro gs
  induction gs with
  | nil => intro r h; cases h; exact ⟨rfl, fun j g u a => (by simp at a), fun us hl _ => List.eq_nil_of_length_eq_zero hl⟩
  | cons g gs ih =>
    intro r h
    simp only [gVs] at h
    split at h
    · rename_i v r' hv hr
      cases h
      obtain ⟨h1, h3, h4⟩ := ih hr
      obtain ⟨g1, g2⟩ := gV_iff (ν := ν) (F := F) (w := w) hv
      refine ⟨by simp [h1], fun j g u a b => ?_, fun us hl ha => ?_⟩
      · cases j with
        | zero => simp at a b; subst a; subst b; exact g1
        | succ j => exact h3 j g u (by simpa using a) (by simpa using b)
      · cases us with
        | nil => simp at hl
        | cons u us =>
          rw [h4 us (by simpa using hl) (fun j g u a b => ha (j + 1) g u (by simpa using a) (by simpa using b)), g2 u (ha 0 _ u rfl rfl)]
    · cases h
theorem resV_mk {ν : Nu} {F : Fz} {w : World} {g : G} {v : Value} (h : resV g = some v) : VR ν F w g v := by
  unfold resV at h
  split at h
  · split at h
    · rename_i gs r hr
      cases h
      obtain ⟨h1, h2, _⟩ := gVs_iff (ν := ν) (F := F) (w := w) hr
      exact .tup _ _ (by simp [h1]) fun j g u a b => h2 j g u a (by simpa using b)
    · cases h
  · exact (gV_iff h).1
theorem of_below [Laid] {ν : Nu} {F : Fz} {w w' : World} {H : Hp} (hr : Rel ν F w H) (hb : Below w.heap.size w w') : Rel ν F w' H ∧ Evo ν F w H ν F w' H := by
  have hk : Keep F w F w' := ⟨fun _ _ h => h, fun b o hf => by
    have := hr.old_lt hf
    simp only [World.cell?, hb.block b this], fun b o hf => szAt_of (hb.block b (hr.old_lt hf))⟩
  refine ⟨⟨hr.inj, fun i b hi => (hr.blk i b hi).keep hk (More.refl _) (fun r k e => hb.block r (hr.mine_lt ⟨i, k, by rw [hi]; rfl, e⟩)) (fun _ _ _ _ => Iff.rfl), fun b o hf => by rw [hk.same b o hf]; exact hr.old b o hf, hr.glob.keep hk⟩,
    ⟨hk, hb.os, hb.tape, hb.output, hb.size, fun r h1 _ => hb.block r h1, fun r h => .inl h, fun b o h => .inl h⟩⟩
theorem gc_of_old [Laid] {P : Program} {f : FuncId} {fn : Func} {c : Code} {args : List G} {vs : List Value} {g : G} {v : Value} (hf : P.funcs[f]? = some fn) (hb : fn.body = some c) (hname : (fn.name == "runtime.NumGoroutine") = false) (ha : gVs args = some vs) (hg : resV g = some v)
    (h : ∀ w, Calls P f vs.toArray w fun e w' => e = .returned v ∧ Below w.heap.size w w') : GC P f args g := by
  refine ⟨⟨fn, c, hf, hb, hname⟩, fun ν F w H us hr hv => ?_⟩
  have e : us = vs.toArray := by
    have := (gVs_iff (ν := ν) (F := F) (w := w) ha).2.2 us.toList (by simpa using hv.1) (fun j g u a b => hv.2 j g u a (by simpa using b))
    rw [← this]
  subst e
  refine (h w).mono fun e w' ⟨h1, h2⟩ => ?_
  obtain ⟨r1, r2⟩ := of_below hr h2
  exact ⟨F, v, h1, resV_mk hg, r1, r2⟩
end Go.Gh

namespace Go.Gh
open Go Go.RowKit
set_option linter.unusedVariables false

/-! a box that is written no more becomes data -/
def dL : List G → Option (List D)
  | [] => some []
  | .d x :: l => match dL l with
    | some r => some (x :: r)
    | none => none
  | _ => none
def ep1 (b : Nat) (cs : List D) : G → Option G
  | .ptr b' es i f => match Nat.beq b' b, i with
    | true, 0 => some (.ep (cs.drop f))
    | _, i => some (.ptr b' es i f)
  | g => g.nf
def epL (b : Nat) (cs : List D) : List G → Option (List G)
  | [] => some []
  | g :: l => match ep1 b cs g, epL b cs l with
    | some g', some l' => some (g' :: l')
    | _, _ => none
def ep2 (b : Nat) (cs : List D) : G → Option G
  | .fn f x y => match epL b cs x, epL b cs y with
    | some x', some y' => some (.fn f x' y')
    | _, _ => none
  | g => ep1 b cs g
def epT (b : Nat) (cs : List D) : List (Nat × G) → Option (List (Nat × G))
  | [] => some []
  | (t, g) :: l => match ep2 b cs g, epT b cs l with
    | some g', some l' => some ((t, g') :: l')
    | _, _ => none
def boxO (b : Nat) (tm : List (Nat × G)) (hp : List (Nat × Option Blk)) : Option (List (Nat × G) × List (Nat × Option Blk)) :=
  match look hp noHp b with
  | some (.box gs) => match dL gs with
    | some cs => match epT b cs tm, nfH [] ((b, none) :: hp) with
      | some tm', some hp' => some (tm', hp')
      | _, _ => none
    | none => none
  | _ => none
theorem dL_eq : ∀ {gs : List G} {cs : List D}, dL gs = some cs → gs = cs.map .d := by
  intro gs
  induction gs with
  | nil => intro cs h; cases h; rfl
  | cons g gs ih =>
    intro cs h
    unfold dL at h
    split at h
    · rename_i e; cases e
    · rename_i x l e
      cases e
      split at h
      · rename_i r hr; cases h; rw [ih hr]; rfl
      · cases h
    · cases h
section
variable {ν : Nu} {F F' : Fz} {w : World} {b r k : Nat} {cs : List D}
theorem ep1_sound (hb : ν b = some (r, k)) (hk : Keep F w F' w) (hep : ∀ f, VR ν F' w (.ep (cs.drop f)) (.pointer (some ⟨r, f, none⟩))) {g g' : G} {v : Value} (h : ep1 b cs g = some g') (hv : VR ν F w g v) : VR ν F' w g' v := by
  unfold ep1 at h
  split at h
  · rename_i b' es i f
    split at h
    · rename_i hbb
      cases h
      have := Nat.eq_of_beq_eq_true hbb
      subst this
      cases hv with
      | ptr _ _ _ _ r' k' hr =>
        rw [hb] at hr
        cases hr
        rw [Nat.zero_mul, Nat.zero_add]
        exact hep f
    · cases h; exact hv.keep hk (More.refl _)
  · rw [G.nf_eq h]; exact hv.keep hk (More.refl _)
theorem epL_sound (hb : ν b = some (r, k)) (hk : Keep F w F' w) (hep : ∀ f, VR ν F' w (.ep (cs.drop f)) (.pointer (some ⟨r, f, none⟩))) : ∀ {l l' : List G}, epL b cs l = some l' → l'.length = l.length ∧ ∀ (j : Nat) g g' v, l[j]? = some g → l'[j]? = some g' → VR ν F w g v → VR ν F' w g' v := by
  intro l
  induction l with
  | nil => intro l' h; cases h; exact ⟨rfl, fun j g g' v e => (by simp at e)⟩
  | cons g l ih =>
    intro l' h
    simp only [epL] at h
    split at h
    · rename_i g1 l1 h1 h2
      cases h
      obtain ⟨a1, a2⟩ := ih h2
      refine ⟨by simp [a1], fun j g g' v e e' hv => ?_⟩
      cases j with
      | zero => simp at e e'; subst e; subst e'; exact ep1_sound hb hk hep h1 hv
      | succ j => exact a2 j g g' v (by simpa using e) (by simpa using e') hv
    · cases h
theorem ep2_sound (hb : ν b = some (r, k)) (hk : Keep F w F' w) (hep : ∀ f, VR ν F' w (.ep (cs.drop f)) (.pointer (some ⟨r, f, none⟩))) {g g' : G} {v : Value} (h : ep2 b cs g = some g') (hv : VR ν F w g v) : VR ν F' w g' v := by
  unfold ep2 at h
  split at h
  · split at h
    · rename_i f x y _ _ x' y' h1 h2
      cases h
      obtain ⟨a1, a2⟩ := epL_sound hb hk hep h1
      obtain ⟨b1, b2⟩ := epL_sound hb hk hep h2
      cases hv with
      | fn f first captured fs cs' e1 e2 k1 k2 =>
        refine .fn f _ _ _ _ (by rw [e1, a1]) (by rw [e2, b1]) (fun j g u hg hu => ?_) (fun j g u hg hu => ?_)
        · have hlt : j < x.length := by rw [← a1]; exact (List.getElem?_eq_some_iff.1 hg).1
          exact a2 j x[j] g u (List.getElem?_eq_getElem hlt) hg (k1 j _ u (List.getElem?_eq_getElem hlt) hu)
        · have hlt : j < y.length := by rw [← b1]; exact (List.getElem?_eq_some_iff.1 hg).1
          exact b2 j y[j] g u (List.getElem?_eq_getElem hlt) hg (k2 j _ u (List.getElem?_eq_getElem hlt) hu)
    · cases h
  · exact ep1_sound hb hk hep h hv
theorem epT_get (hb : ν b = some (r, k)) (hk : Keep F w F' w) (hep : ∀ f, VR ν F' w (.ep (cs.drop f)) (.pointer (some ⟨r, f, none⟩))) {t : Nat} {v : Value} : ∀ {l l' : List (Nat × G)}, epT b cs l = some l' → VR ν F w (getG l t) v → VR ν F' w (getG l' t) v := by
  intro l
  induction l with
  | nil => intro l' h _; cases h; exact .junk _
  | cons x l ih =>
    obtain ⟨t', g⟩ := x
    intro l' h hv
    simp only [epT] at h
    split at h
    · rename_i g1 l1 h1 h2
      cases h
      simp only [getG] at hv ⊢
      cases e : Nat.beq t t' with
      | true => rw [e] at hv; exact ep2_sound hb hk hep h1 hv
      | false => rw [e] at hv; exact ih h2 hv
    · cases h
end
theorem gk_box [Laid] {P : Program} {nt p : Nat} {R : Exit → St → Prop} {c : Code} {K : List Kont} (b : Nat) {tm tm' : List (Nat × G)} {hp hp' : List (Nat × Option Blk)} {n : Nat} (h : GK P nt p R c K ⟨tm', hp', n⟩) (hw : isWork c = true := by rfl) (hb : boxO b tm hp = some (tm', hp') := by rfl) : GK P nt p R c K ⟨tm, hp, n⟩ := by
  refine gk_work hw fun ν F a w hr => ?_
  unfold boxO at hb
  split at hb
  · rename_i gs hgs
    split at hb
    · rename_i cs hcs
      split at hb
      · rename_i tm1 hp1 ht hh
        cases hb
        have hgs' := dL_eq hcs
        subst hgs'
        have hH : St.H ⟨tm, hp, n⟩ b = some (.box (cs.map .d)) := hgs
        obtain ⟨r, q, arr, T, e, h1, h2, h3, h4, h5⟩ := hr.rel.blk b _ hH
        have hsz : arr.size = cs.length := by simpa using h2
        have hcell : ∀ j (hj : j < arr.size), w.cell? ⟨r, j, none⟩ = some arr[j] := fun j hj => by
          simp [World.cell?, h1, hj]
        let F' : Fz := fun b' o => F b' o ∨ (b' = r ∧ o < cs.length)
        have hk : Keep F w F' w := ⟨fun _ _ h => .inl h, fun _ _ _ => rfl, fun _ _ _ => rfl⟩
        have hep : ∀ f, VR ν F' w (.ep (cs.drop f)) (.pointer (some ⟨r, f, none⟩)) := fun f => by
          refine .ep _ r f (fun j => arr.getD (f + j) undef) (fun j x hx => ?_) (fun j x hx => ?_) (fun j x hx => ?_)
          · rw [List.getElem?_drop] at hx
            have hlt : f + j < arr.size := by rw [hsz]; exact (List.getElem?_eq_some_iff.1 hx).1
            rw [hcell _ hlt]; simp [Array.getD, hlt]
          · rw [List.getElem?_drop] at hx
            exact .inr ⟨rfl, (List.getElem?_eq_some_iff.1 hx).1⟩
          · rw [List.getElem?_drop] at hx
            have hlt : f + j < arr.size := by rw [hsz]; exact (List.getElem?_eq_some_iff.1 hx).1
            have := h4 (f + j) (.d x) arr[f + j] (by rw [List.getElem?_map, hx]; rfl) (by simp [hlt])
            have e2 : arr.getD (f + j) undef = arr[f + j] := by simp [Array.getD, hlt]
            rw [e2]
            cases this with
            | d hd => exact hd.keep hk
        have hlk : ∀ i, look hp' noHp i = if i = b then none else look hp noHp i := fun i => by
          rw [nfH_eq hh]
          show (bif Nat.beq i b then none else look hp noHp i) = _
          cases hb : Nat.beq i b with
          | true => rw [if_pos (Nat.eq_of_beq_eq_true hb)]; rfl
          | false => rw [if_neg (fun e => by rw [e, Nat.beq_refl] at hb; cases hb)]; rfl
        have hold : ∀ i b', look hp' noHp i = some b' → i ≠ b ∧ look hp noHp i = some b' := fun i b' hi => by
          rw [hlk] at hi; split at hi
          · cases hi
          · rename_i hne; exact ⟨hne, hi⟩
        have hsome : ∀ i, (look hp' noHp i).isSome = true → i ≠ b ∧ (look hp noHp i).isSome = true := fun i hi => by
          obtain ⟨b', hb'⟩ := Option.isSome_iff_exists.1 hi
          obtain ⟨x1, x2⟩ := hold i b' hb'
          exact ⟨x1, by rw [x2]; rfl⟩
        refine GPost.from h.gw (ν1 := ν) (F1 := F') ⟨hr.pin, fun t => epT_get e hk hep ht (hr.vals t), ⟨fun i j r1 k1 k2 hi hj ei ej => hr.rel.inj i j r1 k1 k2 (hsome i hi).2 (hsome j hj).2 ei ej, fun i b' hi => ?_, fun b' o ho => ?_, hr.rel.glob.keep hk⟩, hr.defers, hr.free, hr.size, fun i hi => ?_⟩
          ⟨hk, rfl, rfl, rfl, Nat.le_refl _, fun _ _ _ => rfl, fun r1 ⟨i, k1, hi, ei⟩ => .inl ⟨i, k1, (hsome i hi).2, ei⟩, fun b' o ho => ?_⟩ (fun _ _ => rfl) (fun _ _ _ h => h)
        · obtain ⟨x1, x2⟩ := hold i b' hi
          refine (hr.rel.blk i b' x2).keep hk (More.refl _) (fun _ _ _ => rfl) (fun r1 k1 ei o => ⟨fun ho => ?_, fun ho => .inl ho⟩)
          rcases ho with ho | ⟨rfl, ho⟩
          · exact ho
          · exact absurd (hr.rel.inj i b r1 k1 q (by show (look hp noHp i).isSome = true; rw [x2]; rfl) (by show (look hp noHp b).isSome = true; rw [hgs]; rfl) ei e) x1
        · rcases ho with ho | ⟨rfl, ho⟩
          · exact hr.rel.old b' o ho
          · rw [hcell o (by rw [hsz]; exact ho)]; rfl
        · show look hp' noHp i = none
          rw [hlk]; split
          · rfl
          · exact hr.fresh i hi
        · rcases ho with ho | ⟨rfl, ho⟩
          · exact .inl ho
          · exact .inr (.inl ⟨b, q, by show (look hp noHp b).isSome = true; rw [hgs]; rfl, e⟩)
      · cases hb
    · cases hb
  · cases hb
end Go.Gh

namespace Go.Gh
open Go Go.RowKit
set_option linter.unusedVariables false

/-! at the end: from the contract to the statement's words -/
def allF (w : World) : Fz := fun b o => (w.cell? ⟨b, o, none⟩).isSome = true
theorem GC.ends [Laid] {P : Program} {f : FuncId} {args : List G} {u : Value} (h : GC P f args (.d (.sc u))) {W : World} (hg : Glob (allF W) W := by exact fun _ h => (by cases h)) {vs : Array Value} (hv : VRs (fun _ => none) (allF W) W args vs) : Calls P f vs W fun e W' => e = .returned u ∧ Below W.heap.size W W' :=
  (h.2 (fun _ => none) (allF W) W noHp vs ⟨fun _ _ _ _ _ h => (by cases h), fun _ _ h => (by cases h), fun _ _ h => h, hg⟩ hv).mono fun e W' ⟨F', v, h1, h2, h3, h4⟩ => by
    have := h2.sc_inv
    subst this
    exact ⟨h1, h4.os, h4.tape, h4.output, h4.size, fun r hr => h4.frame r hr fun ⟨i, k, hi, _⟩ => (by cases hi)⟩
theorem VRs.nil {ν : Nu} {F : Fz} {w : World} : VRs ν F w [] #[] := ⟨rfl, fun j g u h => by simp at h⟩
theorem VRs.of {ν : Nu} {F : Fz} {w : World} : ∀ {gs : List G} {us : List Value}, us.length = gs.length → (∀ (j : Nat) g u, gs[j]? = some g → us[j]? = some u → VR ν F w g u) → VRs ν F w gs us.toArray := fun h1 h2 => ⟨by simpa using h1, fun j g u a b => h2 j g u a (by simpa using b)⟩
theorem VRs.cons {ν : Nu} {F : Fz} {w : World} {g : G} {u : Value} {gs : List G} {us : List Value} (h : VR ν F w g u) (k : VRs ν F w gs us.toArray) : VRs ν F w (g :: gs) (u :: us).toArray :=
  .of (by have := k.1; simpa using this) fun j g' u' a b => by
    cases j with
    | zero => simp at a b; subst a; subst b; exact h
    | succ j => exact k.2 j g' u' (by simpa using a) (by simpa using b)
/-- rows of scalars -/
theorem dr_row {α : Type} {df : α} {cs : α → List D} {f : α → List Value} {es : Nat} {W : World} {A : Option Addr} {c : Nat} {xs : List α} (hcs : ∀ x, cs x = (f x).map .sc) (hlen : ∀ x, (f x).length = es) (hone : ∀ x u, u ∈ f x → u.oneCell' = true) (hc : xs.length ≤ c)
    (h : xs ≠ [] → ∃ b off, A = some ⟨b, off, none⟩ ∧ ∀ i x, xs[i]? = some x → ∀ j u, (f x)[j]? = some u → W.cell? ⟨b, off + i * es + j, none⟩ = some u) : DR (allF W) W (.row df cs xs) (.slice A xs.length c) := by
  by_cases hx : xs = []
  · subst hx
    exact .row df cs [] A c 0 0 es (fun _ _ => undef) (fun h => absurd rfl h) (Nat.zero_le _) (fun e he => (by cases he)) (fun i e j x a => (by simp at a)) (fun i e j x a => (by simp at a)) (fun i e j x a => (by simp at a))
  · obtain ⟨b, off, hA, hcell⟩ := h hx
    have key : ∀ (i : Nat) e (j : Nat) x, xs[i]? = some e → (cs e)[j]? = some x → ∃ u, (f e)[j]? = some u ∧ x = .sc u := fun i e j x a b => by
      rw [hcs, List.getElem?_map] at b
      cases hu : (f e)[j]? with
      | none => rw [hu] at b; cases b
      | some u => rw [hu] at b; cases b; exact ⟨u, rfl, rfl⟩
    refine .row df cs xs A c b off es (fun i j => ((xs[i]?.bind fun e => (f e)[j]?)).getD undef) (fun _ => hA) hc (fun e he => by rw [hcs, List.length_map, hlen]) (fun i e j x a b => ?_) (fun i e j x a b => ?_) (fun i e j x a b => ?_)
    · obtain ⟨u, h1, h2⟩ := key i e j x a b
      rw [hcell i e a j u h1]; simp [a, h1]
    · obtain ⟨u, h1, h2⟩ := key i e j x a b
      show (W.cell? _).isSome = true
      rw [hcell i e a j u h1]; rfl
    · obtain ⟨u, h1, h2⟩ := key i e j x a b
      subst h2
      simp only [a, Option.bind_some, h1, Option.getD_some]
      exact .sc u (hone e u (List.mem_of_getElem? h1))
/-! tables of the program's text -/
def tabD (k : IntKind) : List Int → List D
  | [] => []
  | z :: l => .sc (.int k z) :: tabD k l
theorem tabD_map (k : IntKind) (zs : List Int) : tabD k zs = zs.map fun z => D.sc (.int k z) := by
  induction zs with
  | nil => rfl
  | cons z l ih => simp [tabD, ih]
theorem tabIs_of_glob [Laid] {P : Program} {F : Fz} {w : World} {name : String} {g : Nat} {k : IntKind} {zs : List Int} (hg : Glob F w) (hq : (g, tabD k zs) ∈ Laid.gl) (hn : P.globalNamed name = some g) : Lib.TabIs P w name k zs := by
  obtain ⟨h1, h2, _⟩ := hg _ hq
  obtain ⟨b, off, val, e, hw, _, hd⟩ := h1.ep_inv
  injection e with e; injection e with e; injection e with e1 e2
  dsimp only at e1 e2 h2
  subst e1 e2
  unfold szAt at h2
  unfold Lib.TabIs World.var?
  rw [hn]
  simp only [Option.bind_some]
  split at h2
  · rename_i arr T fr hh
    rw [hh]
    have hl : arr.size = zs.length := by rw [tabD_map] at h2; simpa using h2
    refine congrArg some (Array.ext_getElem? fun i => ?_)
    by_cases hi : i < zs.length
    · have hx : (tabD k zs)[i]? = some (.sc (.int k zs[i])) := by rw [tabD_map]; simp [List.getElem?_eq_getElem hi]
      have c1 := hw i _ hx
      rw [Nat.zero_add, cell_at hh] at c1
      have c2 := hd i _ hx
      generalize val i = u at c1 c2
      cases c2
      rw [c1]
      simp [List.getElem?_eq_getElem hi]
    · rw [Array.getElem?_eq_none (by omega), Array.getElem?_eq_none (by simp; omega)]
  · cases h2
theorem glob_of_tabIs {P : Program} {w : World} {name : String} {g : Nat} {k : IntKind} {zs : List Int} (h : Lib.TabIs P w name k zs) (hn : P.globalNamed name = some g) (h0 : zs ≠ []) :
    VR (fun _ => none) (allF w) w (.ep (tabD k zs)) (.pointer (some ⟨g, 0, none⟩)) ∧ szAt w g = some (tabD k zs).length ∧ allF w g 0 := by
  unfold Lib.TabIs World.var? at h
  rw [hn] at h
  simp only [Option.bind_some] at h
  cases hh : w.heap[g]? with
  | none => rw [hh] at h; cases h
  | some o =>
    rw [hh] at h
    cases o with
    | cells cs T fr =>
      simp only [Option.some.injEq] at h
      have hc : ∀ i, w.cell? ⟨g, i, none⟩ = (zs.map fun z => Value.int k z)[i]? := fun i => by rw [cell_at hh, h]; simp
      refine ⟨.ep _ g 0 (fun i => ((zs.map fun z => Value.int k z)[i]?).getD undef) (fun j x hj => ?_) (fun j x hj => ?_) (fun j x hj => ?_), ?_, ?_⟩
      · rw [tabD_map, List.getElem?_map] at hj
        rw [Nat.zero_add, hc, List.getElem?_map]
        cases hz : zs[j]? with
        | none => rw [hz] at hj; cases hj
        | some z => rfl
      · rw [tabD_map, List.getElem?_map] at hj
        show (w.cell? _).isSome = true
        rw [Nat.zero_add, hc, List.getElem?_map]
        cases hz : zs[j]? with
        | none => rw [hz] at hj; cases hj
        | some z => rfl
      · rw [tabD_map, List.getElem?_map] at hj
        rw [List.getElem?_map]
        cases hz : zs[j]? with
        | none => rw [hz] at hj; cases hj
        | some z => rw [hz] at hj; cases hj; exact .sc _ rfl
      · unfold szAt; rw [hh, tabD_map]; simp [h]
      · show (w.cell? _).isSome = true
        rw [hc]
        obtain ⟨z, l, rfl⟩ := List.exists_cons_of_ne_nil h0
        rfl
    | _ => cases h
/-- a call told of in the elder words, under what is known of the tables -/
theorem gc_of_laid [Laid] {P : Program} {f : FuncId} {fn : Func} {c : Code} {args : List G} {vs : List Value} {g : G} {v : Value} (hf : P.funcs[f]? = some fn) (hb : fn.body = some c) (hname : (fn.name == "runtime.NumGoroutine") = false) (ha : gVs args = some vs) (hg : resV g = some v)
    (h : ∀ F w, Glob F w → Calls P f vs.toArray w fun e w' => e = .returned v ∧ Below w.heap.size w w') : GC P f args g := by
  refine ⟨⟨fn, c, hf, hb, hname⟩, fun ν F w H us hr hv => ?_⟩
  have e : us = vs.toArray := by
    have := (gVs_iff (ν := ν) (F := F) (w := w) ha).2.2 us.toList (by simpa using hv.1) (fun j g u a b => hv.2 j g u a (by simpa using b))
    rw [← this]
  subst e
  refine (h F w hr.glob).mono fun e w' ⟨h1, h2⟩ => ?_
  obtain ⟨r1, r2⟩ := of_below hr h2
  exact ⟨F, v, h1, resV_mk hg, r1, r2⟩
end Go.Gh

namespace Go.Gh
open Go Go.RowKit
set_option linter.unusedVariables false

/-! functions that change blocks they are given -/
def numS : Nat → List Blk → List (Nat × Option Blk)
  | _, [] => []
  | i, b :: l => (i, some b) :: numS (i + 1) l
def numO : Nat → List (Option Blk) → List (Nat × Option Blk)
  | _, [] => []
  | i, b :: l => (i, b) :: numO (i + 1) l
theorem look_numO : ∀ (l : List (Option Blk)) (k i : Nat), look (numO k l) noHp i = if k ≤ i then (l[i - k]?).join else none := by
  intro l
  induction l with
  | nil => intro k i; show none = _; simp
  | cons b l ih =>
    intro k i
    show (bif Nat.beq i k then b else look (numO (k + 1) l) noHp i) = _
    cases e : Nat.beq i k with
    | true =>
      have := Nat.eq_of_beq_eq_true e
      subst this
      simp
    | false =>
      have hne : i ≠ k := fun h => by rw [h, Nat.beq_refl] at e; cases e
      simp only [cond_false, ih]
      by_cases h : k ≤ i
      · rw [if_pos h, if_pos (by omega)]
        obtain ⟨m, hm⟩ : ∃ m, i - k = m + 1 := ⟨i - k - 1, by omega⟩
        rw [hm, show i - (k + 1) = m by omega]
        simp
      · rw [if_neg h, if_neg (by omega)]
theorem numO_R (l : List (Option Blk)) : look (numO 0 l) noHp = hpR l := funext fun i => by rw [look_numO, if_pos (Nat.zero_le _)]; rfl
theorem numS_O : ∀ (l : List Blk) (k : Nat), numS k l = numO k (l.map some) := by
  intro l
  induction l with
  | nil => intro k; rfl
  | cons b l ih => intro k; simp [numS, numO, ih]
theorem numS_F (l : List Blk) : look (numS 0 l) noHp = hpF l := by
  rw [numS_O, numO_R]
  funext i
  show ((l.map some)[i]?).join = l[i]?
  rw [List.getElem?_map]
  cases l[i]? <;> rfl
/-- what is handed back, with the blocks as they are then -/
def RetM [Laid] (P : Program) (fn : Func) (n : Nat) (σ : St) (g : G) (hs' : List (Option Blk)) : Prop :=
  ∀ (ν : Nu) (F : Fz) (a : Act) (w : World) (nt : Nat), RS σ ν F a w nt n → ∃ (ν' : Nu) (F' : Fz) (v : Value), (results fn a.tmps).run P w = .ok v w ∧ VR ν' F' w g v ∧ Rel ν' F' w (hpR hs') ∧ (∀ i, i < n → ν' i = ν i) ∧ (∀ i, hs'.length ≤ i → ν' i = none) ∧ Evo ν F w σ.H ν' F' w (hpR hs')
theorem gm_of_gw [Laid] {P : Program} {f : FuncId} {fn : Func} {c : Code} {args : List G} {hs : List Blk} {g : G} {hs' : List (Option Blk)} (hf : P.funcs[f]? = some fn) (hb : fn.body = some c) (hname : (fn.name == "runtime.NumGoroutine") = false) (hlen : Nat.ble args.length fn.ntmps = true)
    (h : GW P fn.ntmps hs.length c ⟨argT 0 args, numS 0 hs, hs.length⟩ (fun e σ => Ends e ∧ RetM P fn hs.length σ g hs')) : GM P f args hs g hs' := by
  refine ⟨⟨fn, c, hf, hb, hname⟩, fun ν F w vs hr hν hv => ?_⟩
  have hle := Nat.le_of_ble_eq_true hlen
  have hH : St.H ⟨argT 0 args, numS 0 hs, hs.length⟩ = hpF hs := numS_F hs
  have hrs : RS ⟨argT 0 args, numS 0 hs, hs.length⟩ ν F { tmps := vs ++ Array.replicate (fn.ntmps - vs.size) undef, defers := [] } w fn.ntmps hs.length := by
    refine ⟨Nat.le_refl _, fun t => ?_, hH ▸ hr, rfl, hν, by simp [hv.1]; omega, fun i hi => ?_⟩
    · show VR ν F w (getG (argT 0 args) t) _
      rw [argT_get, if_pos (Nat.zero_le _), Nat.sub_zero]
      cases ht : args[t]? with
      | none => exact .junk _
      | some g' =>
        have hlt : t < vs.size := by rw [hv.1]; exact (List.getElem?_eq_some_iff.1 ht).1
        have e1 : (vs ++ Array.replicate (fn.ntmps - vs.size) undef).getD t undef = vs[t] := by
          simp [Array.getD, hlt]
          intro h; omega
        rw [e1]
        exact hv.2 t g' _ ht (by simp [hlt])
    · rw [hH]
      exact List.getElem?_eq_none hi
  refine calls_of_wp hf hb ?_
  refine wp_mono (h ν F _ w hrs) fun e a' w' ⟨σ', ν', F', ⟨he, hret⟩, hr', hev, hpin⟩ => ?_
  obtain ⟨ν'', F'', v, x1, x2, x3, x4, x5, x6⟩ := hret ν' F' a' w' _ hr'
  have hR : ∃ (ν' : Nu) (F' : Fz) (v' : Value), Ending.returned v = .returned v' ∧ VR ν' F' w' g v' ∧ Rel ν' F' w' (hpR hs') ∧ (∀ i, i < hs.length → ν' i = ν i) ∧ (∀ i, hs'.length ≤ i → ν' i = none) ∧ Evo ν F w (hpF hs) ν' F' w' (hpR hs') :=
    ⟨ν'', F'', v, rfl, x2, x3, fun i hi => (x4 i hi).trans (hpin i hi), x5, by have := hev.trans x6; rw [hH] at this; exact this⟩
  rcases he with rfl | rfl <;> exact ⟨hr'.defers, v, x1, hR⟩
theorem resL_own [Laid] {P : Program} {T : Tab} (hT : TabOK P T) {σ : St} {ν : Nu} {F : Fz} {a : Act} {w : World} {nt p : Nat} (hr : RS σ ν F a w nt p) : ∀ (rs : List ResultVar) (gs : List G), resL T σ rs = some gs →
    ∃ vs : List Value, (rs.mapM (resSem a.tmps)).run P w = .ok vs w ∧ vs.length = gs.length ∧ ∀ (j : Nat) g u, gs[j]? = some g → vs[j]? = some u → VR ν F w g u := by
  intro rs
  induction rs with
  | nil => intro gs h; simp only [resL, Option.some.injEq] at h; subst h; exact ⟨[], rfl, rfl, fun j g u h => (by simp at h)⟩
  | cons r rs ih =>
    intro gs h
    simp only [resL] at h
    split at h
    · rename_i g gs' h1 h2
      cases h
      obtain ⟨v, r1, r2⟩ := resOne_sound hT hr h1
      obtain ⟨vs, s1, s2, s3⟩ := ih gs' h2
      refine ⟨v :: vs, ?_, by simp [s2], fun j g' u hg hu => ?_⟩
      · simp only [List.mapM_cons, Sem.run_bind]
        rw [r1]
        simp only [Result.andThen_ok, s1, Sem.run_pure]
      · match j with
        | 0 => simp at hg hu; subst hg; subst hu; exact r2
        | j + 1 => exact s3 j g' u (by simpa using hg) (by simpa using hu)
    · cases h
theorem retM_ok [Laid] {P : Program} {T : Tab} (hT : TabOK P T) {fn : Func} {p : Nat} {tm : List (Nat × G)} {hp : List (Nat × Option Blk)} {k : Nat} {gs gs' : List G} {hs' : List (Option Blk)} {ps : List Prop} (h : resL T ⟨tm, hp, k⟩ fn.results.toList = some gs) (hl : gs.length = gs'.length)
    (hw : weakA p ⟨argT 0 gs, hp, k⟩ ⟨argT 0 gs', numO 0 hs', hs'.length⟩ = some ps) (hps : AllP ps) : RetM P fn p ⟨tm, hp, k⟩ (tupG gs') hs' := by
  intro ν F a w nt hr
  obtain ⟨vs, r1, r2, r3⟩ := resL_own hT hr fn.results.toList gs h
  have hm : (fn.results.mapM (resSem a.tmps)).run P w = .ok vs.toArray w := by
    rw [Array.mapM_eq_mapM_toList, Sem.run_map, r1]; rfl
  have r0 : RS ⟨argT 0 gs, hp, k⟩ ν F { tmps := vs.toArray, defers := [] } w vs.length p := by
    refine ⟨hr.pin, fun t => ?_, hr.rel, rfl, hr.free, by simp, hr.fresh⟩
    show VR ν F w (getG (argT 0 gs) t) _
    rw [argT_get, if_pos (Nat.zero_le _), Nat.sub_zero]
    cases ht : gs[t]? with
    | none => exact .junk _
    | some g' =>
      have hlt : t < vs.length := by rw [r2]; exact (List.getElem?_eq_some_iff.1 ht).1
      have e1 : vs.toArray.getD t undef = vs[t] := by simp [Array.getD, hlt]
      rw [e1]
      exact r3 t g' _ ht (List.getElem?_eq_getElem hlt)
  obtain ⟨ρ, hρ⟩ := weakA_sound hw
  obtain ⟨ν2, r4, e4, p4⟩ := (weakO_sound hρ hps).rs r0
  have hH : St.H ⟨argT 0 gs', numO 0 hs', hs'.length⟩ = hpR hs' := numO_R hs'
  have hval : ∀ (j : Nat) g u, gs'[j]? = some g → vs[j]? = some u → VR ν2 F w g u := fun j g u hg hu => by
    have := r4.vals j
    have e2 : St.get ⟨argT 0 gs', numO 0 hs', hs'.length⟩ j = g := by
      show getG (argT 0 gs') j = g
      rw [argT_get, if_pos (Nat.zero_le _), Nat.sub_zero, hg]; rfl
    have hlt := (List.getElem?_eq_some_iff.1 hu).1
    have e1 : vs.toArray.getD j undef = u := by
      have := (List.getElem?_eq_some_iff.1 hu).2
      simp [Array.getD, hlt, this]
    rw [e2] at this
    have this' : VR ν2 F w g (vs.toArray.getD j undef) := this
    rw [e1] at this'
    exact this'
  refine ⟨ν2, F, if h : vs.toArray.size = 1 then vs.toArray[0] else .tuple vs.toArray, ?_, ?_, hH ▸ r4.rel, p4, fun i hi => r4.free i hi, hH ▸ e4⟩
  · rw [results_eq]
    simp only [Sem.run_bind, hm]
    rfl
  · match gs', hl, hval with
    | [g], hl, hval =>
      have hl1 : vs.toArray.size = 1 := by have : gs.length = 1 := hl; simpa [r2] using this
      rw [dif_pos hl1]
      exact hval 0 g _ rfl (by rw [List.getElem?_eq_getElem (show 0 < vs.length by simp at hl1; omega)]; simp)
    | [], hl, hval =>
      have hl1 : ¬ vs.toArray.size = 1 := by have : gs.length = 0 := hl; simp [r2, this]
      rw [dif_neg hl1]
      exact .tup _ _ (by have : gs.length = 0 := hl; simp [r2, this]) (fun j g u h => (by simp at h))
    | g1 :: g2 :: gs'', hl, hval =>
      have hl2 : gs.length = gs''.length + 2 := hl
      have hl1 : ¬ vs.toArray.size = 1 := by simp [r2]; omega
      rw [dif_neg hl1]
      refine .tup _ _ (by simp [r2]; omega) (fun j g u hg hu => hval j g u hg (by simpa using hu))
section
variable {P : Program} {nt p : Nat} {R : Exit → St → Prop} {c c' : Code} {K K' : List Kont} {σ : St}
theorem gk_retM [Laid] {T : Tab} (env : Env P T) {fn : Func} {ps ps' : List Prop} {gs : List G} {hs' : List (Option Blk)} {tm : List (Nat × G)} {h0 : List (Nat × Option Blk)} {k : Nat} (gs' : List G) {g : G} (hg : tupG gs' = g := by rfl) (h : resL T ⟨tm, h0, k⟩ fn.results.toList = some gs := by rfl) (hl : gs.length = gs'.length := by rfl) (hw : weakA p ⟨argT 0 gs, h0, k⟩ ⟨argT 0 gs', numO 0 hs', hs'.length⟩ = some ps := by rfl) (hf : nfP ps = some ps' := by rfl) (hp : AllP ps' := by first | trivial | simp [AllP]) : GK P nt p (fun e σ => Ends e ∧ RetM P fn p σ g hs') .ret K ⟨tm, h0, k⟩ := by
  subst hg
  exact kQ_ret K ⟨.inr rfl, retM_ok env.ty h hl hw (nfP_eq hf ▸ hp)⟩
theorem gk_endM [Laid] {T : Tab} (env : Env P T) {fn : Func} {ps ps' : List Prop} {gs : List G} {hs' : List (Option Blk)} {tm : List (Nat × G)} {h0 : List (Nat × Option Blk)} {k : Nat} (gs' : List G) {g : G} (hg : tupG gs' = g := by rfl) (h : resL T ⟨tm, h0, k⟩ fn.results.toList = some gs := by rfl) (hl : gs.length = gs'.length := by rfl) (hw : weakA p ⟨argT 0 gs, h0, k⟩ ⟨argT 0 gs', numO 0 hs', hs'.length⟩ = some ps := by rfl) (hf : nfP ps = some ps' := by rfl) (hp : AllP ps' := by first | trivial | simp [AllP]) : GK P nt p (fun e σ => Ends e ∧ RetM P fn p σ g hs') .skip [] ⟨tm, h0, k⟩ := by
  subst hg
  exact ⟨.inl rfl, retM_ok env.ty h hl hw (nfP_eq hf ▸ hp)⟩
theorem gm_of_gk [Laid] {f : FuncId} {fn : Func} {c : Code} {args : List G} {hs : List Blk} {g : G} {hs' : List (Option Blk)} {h0 : List (Nat × Option Blk)} {n : Nat} (hf : P.funcs[f]? = some fn)
    (h : GK P fn.ntmps n (fun e σ => Ends e ∧ RetM P fn n σ g hs') c' K' ⟨argT 0 args, h0, n⟩) (hn0 : hs.length = n := by rfl) (h00 : numS 0 hs = h0 := by rfl) (hb : fn.body = some c := by rfl) (hname : (fn.name == "runtime.NumGoroutine") = false := by rfl) (hlen : Nat.ble args.length fn.ntmps = true := by rfl) (hn : nrm 1000 c [] = some (c', K') := by rfl) : GM P f args hs g hs' := by
  subst hn0 h00
  exact gm_of_gw hf hb hname hlen (nrm_sound hn h : GK P fn.ntmps hs.length _ c [] _).gw
end

/-! a row becomes data everywhere -/
def row1 (b es len : Nat) (x : D) : G → Option (List Prop × G)
  | .sl b' es' i n => match Nat.beq b' b with
    | true => match i, Nat.beq es' es with
      | 0, true => some ([n = len], .d x)
      | _, _ => none
    | false => some ([], .sl b' es' i n)
  | g => match g.nf with
    | some g => some ([], g)
    | none => none
def rowL1 (b es len : Nat) (x : D) : List G → Option (List Prop × List G)
  | [] => some ([], [])
  | g :: l => match row1 b es len x g, rowL1 b es len x l with
    | some (p, g'), some (q, l') => some (catP p q, g' :: l')
    | _, _ => none
def row2 (b es len : Nat) (x : D) : G → Option (List Prop × G)
  | .agg cs => match rowL1 b es len x cs with
    | some (p, cs') => some (p, .agg cs')
    | none => none
  | .tup cs => match rowL1 b es len x cs with
    | some (p, cs') => some (p, .tup cs')
    | none => none
  | g => row1 b es len x g
def rowT (b es len : Nat) (x : D) : List (Nat × G) → Option (List Prop × List (Nat × G))
  | [] => some ([], [])
  | (t, g) :: l => match row2 b es len x g, rowT b es len x l with
    | some (p, g'), some (q, l') => some (catP p q, (t, g') :: l')
    | _, _ => none
/-- the blocks: the row is gone, its slices are data -/
def rowH (b es len : Nat) (x : D) : List (Nat × Option Blk) → Option (List Prop × List (Nat × Option Blk))
  | [] => some ([], [])
  | (i, ob) :: l => match rowH b es len x l with
    | some (q, l') => match Nat.beq i b, ob with
      | true, _ => some (q, (i, none) :: l')
      | false, some (.box cs) => match rowL1 b es len x cs with
        | some (p, cs') => some (catP p q, (i, some (.box cs')) :: l')
        | none => none
      | false, ob => some (q, (i, ob) :: l')
    | none => none
def rowO (b : Nat) (tm : List (Nat × G)) (hp : List (Nat × Option Blk)) : Option (List Prop × List (Nat × G) × List (Nat × Option Blk)) :=
  match look hp noHp b with
  | some (.row ty es df cs xs fz) => match rowT b es xs.length (.row df cs xs) tm, rowH b es xs.length (.row df cs xs) hp with
    | some (p, tm'), some (q, hp') => match nfH [] hp' with
      | some hp'' => some (catP p q, tm', hp'')
      | none => none
    | _, _ => none
  | _ => none
section
variable {ν : Nu} {F F' : Fz} {w : World} {b es len : Nat} {x : D}
theorem row1_sound (hk : Keep F w F' w) (hd : ∀ v, VR ν F w (.sl b es 0 len) v → DR F' w x v) {g g' : G} {p : List Prop} {v : Value} (h : row1 b es len x g = some (p, g')) (hp : AllP p) (hv : VR ν F w g v) : VR ν F' w g' v := by
  unfold row1 at h
  split at h
  · rename_i b' es' i n
    split at h
    · rename_i hb
      split at h
      · rename_i he
        cases h
        have := Nat.eq_of_beq_eq_true hb; subst this
        have := Nat.eq_of_beq_eq_true he; subst this
        have hp : n = len := hp
        subst hp
        exact .d (hd v hv)
      · cases h
    · cases h; exact hv.keep hk (More.refl _)
  · split at h
    · rename_i g1 hg
      cases h
      rw [G.nf_eq hg]; exact hv.keep hk (More.refl _)
    · cases h
theorem rowL1_sound (hk : Keep F w F' w) (hd : ∀ v, VR ν F w (.sl b es 0 len) v → DR F' w x v) : ∀ {l l' : List G} {p : List Prop}, rowL1 b es len x l = some (p, l') → AllP p → l'.length = l.length ∧ ∀ (j : Nat) g g' v, l[j]? = some g → l'[j]? = some g' → VR ν F w g v → VR ν F' w g' v := by
  intro l
  induction l with
  | nil => intro l' p h _; cases h; exact ⟨rfl, fun j g g' v e => (by simp at e)⟩
  | cons g l ih =>
    intro l' p h hp
    simp only [rowL1] at h
    split at h
    · rename_i p1 g1 p2 l1 h1 h2
      cases h
      obtain ⟨q1, q2⟩ := catP_spec hp
      obtain ⟨a1, a2⟩ := ih h2 q2
      refine ⟨by simp [a1], fun j g g' v e e' hv => ?_⟩
      cases j with
      | zero => simp at e e'; subst e; subst e'; exact row1_sound hk hd h1 q1 hv
      | succ j => exact a2 j g g' v (by simpa using e) (by simpa using e') hv
    · cases h
theorem row2_sound (hk : Keep F w F' w) (hd : ∀ v, VR ν F w (.sl b es 0 len) v → DR F' w x v) {g g' : G} {p : List Prop} {v : Value} (h : row2 b es len x g = some (p, g')) (hp : AllP p) (hv : VR ν F w g v) : VR ν F' w g' v := by
  unfold row2 at h
  split at h
  · rename_i cs
    split at h
    · rename_i p1 cs' h1
      cases h
      obtain ⟨a1, a2⟩ := rowL1_sound hk hd h1 hp
      cases hv with
      | agg _ us e1 e2 k =>
        refine .agg _ _ (by rw [e1, a1]) e2 fun j g u hg hu => ?_
        have hlt : j < cs.length := by rw [← a1]; exact (List.getElem?_eq_some_iff.1 hg).1
        exact a2 j cs[j] g u (List.getElem?_eq_getElem hlt) hg (k j _ u (List.getElem?_eq_getElem hlt) hu)
    · cases h
  · rename_i cs
    split at h
    · rename_i p1 cs' h1
      cases h
      obtain ⟨a1, a2⟩ := rowL1_sound hk hd h1 hp
      cases hv with
      | tup _ us e1 k =>
        refine .tup _ _ (by rw [e1, a1]) fun j g u hg hu => ?_
        have hlt : j < cs.length := by rw [← a1]; exact (List.getElem?_eq_some_iff.1 hg).1
        exact a2 j cs[j] g u (List.getElem?_eq_getElem hlt) hg (k j _ u (List.getElem?_eq_getElem hlt) hu)
    · cases h
  · exact row1_sound hk hd h hp hv
theorem rowT_get (hk : Keep F w F' w) (hd : ∀ v, VR ν F w (.sl b es 0 len) v → DR F' w x v) {t : Nat} {v : Value} : ∀ {l l' : List (Nat × G)} {p : List Prop}, rowT b es len x l = some (p, l') → AllP p → VR ν F w (getG l t) v → VR ν F' w (getG l' t) v := by
  intro l
  induction l with
  | nil => intro l' p h _ _; cases h; exact .junk _
  | cons y l ih =>
    obtain ⟨t', g⟩ := y
    intro l' p h hp hv
    simp only [rowT] at h
    split at h
    · rename_i p1 g1 p2 l1 h1 h2
      cases h
      obtain ⟨q1, q2⟩ := catP_spec hp
      simp only [getG] at hv ⊢
      cases e : Nat.beq t t' with
      | true => rw [e] at hv; exact row2_sound hk hd h1 q1 hv
      | false => rw [e] at hv; exact ih h2 q2 hv
    · cases h
/-- what a block is told of after it -/
def RowB (b : Nat) (i : Nat) (ob ob' : Option Blk) (ν : Nu) (F F' : Fz) (w : World) : Prop :=
  (i = b ∧ ob' = none) ∨ (i ≠ b ∧ (ob'.isSome = ob.isSome) ∧ ∀ bl bl', ob = some bl → ob' = some bl' → (∀ r k, ν i = some (r, k) → ∀ o, F' r o ↔ F r o) → BR ν F w (ν i) bl → BR ν F' w (ν i) bl')
theorem rowH_look (hk : Keep F w F' w) (hd : ∀ v, VR ν F w (.sl b es 0 len) v → DR F' w x v) : ∀ {l l' : List (Nat × Option Blk)} {p : List Prop}, rowH b es len x l = some (p, l') → AllP p → ∀ i, RowB b i (look l noHp i) (look l' noHp i) ν F F' w ∨ (look l noHp i = none ∧ look l' noHp i = none) := by
  intro l
  induction l with
  | nil => intro l' p h _ i; cases h; exact .inr ⟨rfl, rfl⟩
  | cons y l ih =>
    obtain ⟨k, ob⟩ := y
    intro l' p h hp i
    simp only [rowH] at h
    split at h
    · rename_i q l1 h1
      have keepB : ∀ (bl : Blk), (∀ r k', ν i = some (r, k') → ∀ o, F' r o ↔ F r o) → BR ν F w (ν i) bl → BR ν F' w (ν i) bl := fun bl hF hb => hb.keep hk (More.refl _) (fun _ _ _ => rfl) hF
      split at h
      · rename_i hb
        cases h
        have := Nat.eq_of_beq_eq_true hb; subst this
        by_cases e : i = k
        · subst e
          rw [look_same', look_same']
          exact .inl (.inl ⟨rfl, rfl⟩)
        · rw [look_oth' e, look_oth' e]
          exact ih h1 hp i
      · rename_i cs hb
        split at h
        · rename_i p1 cs' hc
          cases h
          obtain ⟨q1, q2⟩ := catP_spec hp
          obtain ⟨a1, a2⟩ := rowL1_sound hk hd hc q1
          have hne : k ≠ b := fun e => by rw [e, Nat.beq_refl] at hb; cases hb
          by_cases e : i = k
          · subst e
            rw [look_same', look_same']
            refine .inl (.inr ⟨hne, rfl, fun bl bl' e1 e2 hF hbr => ?_⟩)
            cases e1; cases e2
            obtain ⟨r, k, arr, T, e, g1, g2, g3, g4, g5⟩ := hbr
            refine ⟨r, k, arr, T, e, g1, by rw [g2, a1], g3, fun j g u hg hu => ?_, fun o ho => g5 o ((hF r k e o).1 ho)⟩
            have hlt : j < cs.length := by rw [← a1]; exact (List.getElem?_eq_some_iff.1 hg).1
            exact a2 j cs[j] g u (List.getElem?_eq_getElem hlt) hg (g4 j _ u (List.getElem?_eq_getElem hlt) hu)
          · rw [look_oth' e, look_oth' e]
            exact ih h1 q2 i
        · cases h
      · rename_i hb _
        cases h
        have hne : k ≠ b := fun e => by rw [e, Nat.beq_refl] at hb; cases hb
        by_cases e : i = k
        · subst e
          rw [look_same', look_same']
          exact .inl (.inr ⟨hne, rfl, fun bl bl' e1 e2 hF hbr => by rw [e1] at e2; cases e2; exact keepB _ hF hbr⟩)
        · rw [look_oth' e, look_oth' e]
          exact ih h1 hp i
    · cases h
end
section
variable {P : Program} {nt p : Nat} {R : Exit → St → Prop} {c c' : Code} {K K' : List Kont} {σ : St}
theorem gk_row [Laid] (b : Nat) {tm tm' : List (Nat × G)} {hp hp' : List (Nat × Option Blk)} {n : Nat} {ps ps' : List Prop} (h : GK P nt p R c K ⟨tm', hp', n⟩) (hw : isWork c = true := by rfl) (ho : rowO b tm hp = some (ps, tm', hp') := by rfl) (hf : nfP ps = some ps' := by rfl) (hps : AllP ps' := by first | trivial | simp [AllP]) : GK P nt p R c K ⟨tm, hp, n⟩ := by
  refine gk_work hw fun ν F a w hr => ?_
  have hps := nfP_eq hf ▸ hps
  unfold rowO at ho
  split at ho
  · rename_i α ty es df cs xs fz hb
    split at ho
    · rename_i p1 tm1 p2 hp1 h1 h2
      split at ho
      · rename_i hp2 hnf
        cases ho
        obtain ⟨q1, q2⟩ := catP_spec hps
        obtain ⟨F', r1, k1, e1, f1⟩ := hr.rel.freeze (H := look hp noHp) hb
        have hd : ∀ v, VR ν F w (.sl b es 0 xs.length) v → DR F' w (.row df cs xs) v := fun v hv => row_data (hr.rel.blk b _ hb) k1 f1 hv
        have hlk := fun i => rowH_look (ν := ν) k1 hd h2 q2 i
        have hH : look hp' noHp = look hp1 noHp := nfH_eq hnf
        have hsub : ∀ i, (look hp1 noHp i).isSome = true → i ≠ b ∧ (look hp noHp i).isSome = true := fun i hi => by
          rcases hlk i with (⟨_, h⟩ | ⟨h, h', _⟩) | ⟨_, h⟩
          · rw [h] at hi; cases hi
          · exact ⟨h, by rw [← h']; exact hi⟩
          · rw [h] at hi; cases hi
        have hFF : ∀ i, i ≠ b → (look hp noHp i).isSome = true → ∀ r k, ν i = some (r, k) → ∀ o, F' r o ↔ F r o := fun i hi hs r k e o => by
          refine ⟨fun ho => ?_, fun ho => k1.sub _ _ ho⟩
          obtain ⟨bl, hbl⟩ := Option.isSome_iff_exists.1 hs
          have hbl' : look [(b, some (Blk.row ty es df cs xs xs.length))] (look hp noHp) i = some bl := by rw [look1_other hi]; exact hbl
          have b1 := r1.blk i bl hbl'
          have b0 := hr.rel.blk i bl hbl
          rw [e] at b0 b1
          cases bl with
          | box cells =>
            obtain ⟨_, _, _, _, e2, _, _, _, _, g5⟩ := b1
            cases e2; exact absurd ho (g5 o)
          | row ty es df cs xs fz =>
            rcases b1 with ⟨e2, _⟩ | ⟨_, _, _, e2, _, _, _, _, _, _, _, g7, _⟩
            · cases e2
            · rcases b0 with ⟨e3, _⟩ | ⟨_, _, _, e3, _, _, _, _, _, _, _, g7', _⟩
              · cases e3
              · cases e2; cases e3; exact (g7' o).2 ((g7 o).1 ho)
          | mp L =>
            obtain ⟨_, _, _, _, e2, _, _, _, g5⟩ := b1
            cases e2; exact absurd ho (g5 o)
        refine GPost.from h.gw (ν1 := ν) (F1 := F') ⟨hr.pin, fun t => rowT_get k1 hd h1 q1 (hr.vals t), ?_, hr.defers, hr.free, hr.size, fun i hi => ?_⟩ ?_ (fun _ _ => rfl) (fun _ _ _ h => h)
        · show Rel ν F' w (look hp' noHp)
          rw [hH]
          refine ⟨fun i j r ki kj hi hj ei ej => hr.rel.inj i j r ki kj (hsub i hi).2 (hsub j hj).2 ei ej, fun i bl hi => ?_, r1.old, r1.glob⟩
          obtain ⟨s1, s2⟩ := hsub i (by rw [hi]; rfl)
          rcases hlk i with (⟨_, h⟩ | ⟨_, h', h''⟩) | ⟨h, h'⟩
          · rw [h] at hi; cases hi
          · obtain ⟨bl0, hbl0⟩ := Option.isSome_iff_exists.1 s2
            exact h'' bl0 bl hbl0 hi (hFF i s1 s2) (hr.rel.blk i bl0 hbl0)
          · rw [h'] at hi; cases hi
        · show look hp' noHp i = none
          rw [hH]
          have := hr.fresh i hi
          cases hx : look hp1 noHp i with
          | none => rfl
          | some bl =>
            have := (hsub i (by rw [hx]; rfl)).2
            rw [show look hp noHp i = none from hr.fresh i hi] at this
            cases this
        · show Evo ν F w (look hp noHp) ν F' w (look hp' noHp)
          rw [hH]
          refine ⟨k1, rfl, rfl, rfl, Nat.le_refl _, fun _ _ _ => rfl, fun r ⟨i, k, hi, e⟩ => .inl ⟨i, k, (hsub i hi).2, e⟩, fun b' o ho => ?_⟩
          rcases e1.fz b' o ho with h | ⟨i, k, hi, e⟩ | h
          · exact .inl h
          · refine .inr (.inl ⟨i, k, ?_, e⟩)
            exact hi
          · exact .inr (.inr h)
      · cases ho
    · cases ho
  · cases ho
end
end Go.Gh
