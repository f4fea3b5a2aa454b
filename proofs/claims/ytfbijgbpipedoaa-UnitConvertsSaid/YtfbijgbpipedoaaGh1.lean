/- A logic of calls without memory (1 of 4). -/
import Derived.WalkKit
import Derived.Lib.Hide
import Derived.Deep.Draws
import Derived.Orders
namespace Go.Gh
open Go Go.RowKit

/-- data that is only read: one cell each -/
inductive D : Type 1 where
  | sc (v : Value)
  | row {α : Type} (dflt : α) (cells : α → List D) (xs : List α)

/-- what is known of a value -/
inductive G : Type 1 where
  | d (x : D)
  | ptr (b es i f : Nat)
  | sl (b es i n : Nat)
  | ep (cells : List D)
  | fn (f : Fn) (first captured : List G)
  | agg (cells : List G)
  | tup (vs : List G)
  | iface (t : TypeId) (g : G)
  | mp (b : Nat)
  | opt (c : Bool) (g : G)
  | junk

inductive Blk : Type 1 where
  | box (cells : List G)
  | row {α : Type} (ty es : Nat) (dflt : α) (cells : α → List D) (xs : List α) (fz : Nat)
  | mp (L : List (Value × Value))

abbrev Fz := Nat → Nat → Prop
abbrev Nu := Nat → Option (Nat × Nat)

section
inductive DR (F : Fz) (w : World) : D → Value → Prop
  | sc (v : Value) (h : v.oneCell' = true) : DR F w (.sc v) v
  | row {α : Type} (dflt : α) (cells : α → List D) (xs : List α) (A : Option Addr) (c b off es : Nat) (val : Nat → Nat → Value)
      (hA : xs ≠ [] → A = some ⟨b, off, none⟩) (hc : xs.length ≤ c) (hl : ∀ e, e ∈ xs → (cells e).length = es)
      (hw : ∀ (i : Nat) e (j : Nat) x, xs[i]? = some e → (cells e)[j]? = some x → w.cell? ⟨b, off + i * es + j, none⟩ = some (val i j))
      (hF : ∀ (i : Nat) e (j : Nat) x, xs[i]? = some e → (cells e)[j]? = some x → F b (off + i * es + j))
      (h : ∀ (i : Nat) e (j : Nat) x, xs[i]? = some e → (cells e)[j]? = some x → DR F w x (val i j)) : DR F w (.row dflt cells xs) (.slice A xs.length c)

inductive VR (ν : Nu) (F : Fz) (w : World) : G → Value → Prop
  | d {x : D} {v : Value} (h : DR F w x v) : VR ν F w (.d x) v
  | ptr (b es i f r k : Nat) (h : ν b = some (r, k)) : VR ν F w (.ptr b es i f) (.pointer (some ⟨r, i * es + f, none⟩))
  | sl (b es i n : Nat) (A : Option Addr) (c : Nat)
      (h1 : 0 < n → ∃ r k, ν b = some (r, k) ∧ A = some ⟨r, i * es, none⟩ ∧ i + n ≤ k ∧ c = k - i)
      (h2 : n = 0 → i = 0 → (∃ r k, ν b = some (r, k) ∧ A = some ⟨r, 0, none⟩ ∧ c = k) ∨ (A = none ∧ c = 0)) (h3 : n ≤ c) : VR ν F w (.sl b es i n) (.slice A n c)
  | ep (cells : List D) (b off : Nat) (val : Nat → Value)
      (hw : ∀ j x, cells[j]? = some x → w.cell? ⟨b, off + j, none⟩ = some (val j))
      (hF : ∀ j x, cells[j]? = some x → F b (off + j))
      (h : ∀ j x, cells[j]? = some x → DR F w x (val j)) : VR ν F w (.ep cells) (.pointer (some ⟨b, off, none⟩))
  | fn (f : Fn) (first captured : List G) (fs cs : Array Value) (h1 : fs.size = first.length) (h2 : cs.size = captured.length)
      (k1 : ∀ (j : Nat) g u, first[j]? = some g → fs[j]? = some u → VR ν F w g u) (k2 : ∀ (j : Nat) g u, captured[j]? = some g → cs[j]? = some u → VR ν F w g u) : VR ν F w (.fn f first captured) (.func f fs cs)
  | agg (cells : List G) (cs : Array Value) (h1 : cs.size = cells.length) (hc : ∀ u, u ∈ cs.toList → u.oneCell' = true)
      (k : ∀ (j : Nat) g u, cells[j]? = some g → cs[j]? = some u → VR ν F w g u) : VR ν F w (.agg cells) (.agg cs)
  | tup (vs : List G) (us : Array Value) (h1 : us.size = vs.length)
      (k : ∀ (j : Nat) g u, vs[j]? = some g → us[j]? = some u → VR ν F w g u) : VR ν F w (.tup vs) (.tuple us)
  | iface (t : TypeId) (g : G) (u : Value) (h : VR ν F w g u) : VR ν F w (.iface t g) (.iface t u)
  | mp (b r k : Nat) (h : ν b = some (r, k)) : VR ν F w (.mp b) (.map (some r))
  | opt (c : Bool) (g : G) (u : Value) (h : c = true → VR ν F w g u) (h0 : c = false → u = undef) : VR ν F w (.opt c g) u
  | junk (u : Value) : VR ν F w .junk u
end

/-- frozen cells stay, and more may become frozen -/
structure Keep (F : Fz) (w : World) (F' : Fz) (w' : World) : Prop where
  sub : ∀ b o, F b o → F' b o
  same : ∀ b o, F b o → w'.cell? ⟨b, o, none⟩ = w.cell? ⟨b, o, none⟩

/-- every name that stood for a block stands for it still -/
def More (ν ν' : Nu) : Prop := ∀ i p, ν i = some p → ν' i = some p

theorem Keep.refl (F : Fz) (w : World) : Keep F w F w := ⟨fun _ _ h => h, fun _ _ _ => rfl⟩
theorem Keep.trans {F F' F'' : Fz} {w w' w'' : World} (h : Keep F w F' w') (k : Keep F' w' F'' w'') : Keep F w F'' w'' :=
  ⟨fun b o x => k.sub b o (h.sub b o x), fun b o x => (k.same b o (h.sub b o x)).trans (h.same b o x)⟩
theorem More.refl (ν : Nu) : More ν ν := fun _ _ h => h
theorem More.trans {ν ν' ν'' : Nu} (h : More ν ν') (k : More ν' ν'') : More ν ν'' := fun i p x => k i p (h i p x)

theorem DR.keep {F F' : Fz} {w w' : World} {x : D} {v : Value} (h : DR F w x v) (k : Keep F w F' w') : DR F' w' x v := by
  induction h with
  | sc v h => exact .sc v h
  | row dflt cells xs A c b off es val hA hc hl hw hF _ ih =>
    exact .row dflt cells xs A c b off es val hA hc hl (fun i e j x h1 h2 => (k.same _ _ (hF i e j x h1 h2)).trans (hw i e j x h1 h2)) (fun i e j x h1 h2 => k.sub _ _ (hF i e j x h1 h2)) ih
theorem VR.keep {ν ν' : Nu} {F F' : Fz} {w w' : World} {g : G} {v : Value} (h : VR ν F w g v) (k : Keep F w F' w') (m : More ν ν') : VR ν' F' w' g v := by
  induction h with
  | d h => exact .d (h.keep k)
  | ptr b es i f r k h => exact .ptr b es i f r k (m _ _ h)
  | sl b es i n A c h1 h2 h3 =>
    refine .sl b es i n A c (fun h => ?_) (fun ha hb => ?_) h3
    · obtain ⟨r, k, e, h⟩ := h1 h
      exact ⟨r, k, m _ _ e, h⟩
    · rcases h2 ha hb with ⟨r, k, e, h⟩ | h
      · exact .inl ⟨r, k, m _ _ e, h⟩
      · exact .inr h
  | ep cells b off val hw hF h => exact .ep cells b off val (fun j x h1 => (k.same _ _ (hF j x h1)).trans (hw j x h1)) (fun j x h1 => k.sub _ _ (hF j x h1)) (fun j x h1 => (h j x h1).keep k)
  | fn f first captured fs cs h1 h2 _ _ i1 i2 => exact .fn f first captured fs cs h1 h2 i1 i2
  | agg cells cs h1 hc _ ih => exact .agg cells cs h1 hc ih
  | tup vs us h1 _ ih => exact .tup vs us h1 ih
  | iface t g u _ ih => exact .iface t g u ih
  | mp b r k h => exact .mp b r k (m _ _ h)
  | opt c g u _ h0 ih => exact .opt c g u ih h0
  | junk u => exact .junk u

/-- what a block of the call's own holds -/
def BR (ν : Nu) (F : Fz) (w : World) (p : Option (Nat × Nat)) : Blk → Prop
  | .box cells => ∃ r k arr T, p = some (r, k) ∧ w.heap[r]? = some (.cells arr T (0, 0)) ∧ arr.size = cells.length ∧ (∀ u, u ∈ arr.toList → u.oneCell' = true) ∧
      (∀ (j : Nat) g u, cells[j]? = some g → arr[j]? = some u → VR ν F w g u) ∧ ∀ o, ¬ F r o
  | .row ty es _ cells xs fz => (p = none ∧ xs = [] ∧ fz = 0) ∨ ∃ r k arr, p = some (r, k) ∧ w.heap[r]? = some (.cells arr ty (0, 0)) ∧ k ≤ maxLen ∧ arr.size = k * es ∧ xs.length ≤ k ∧ (∀ e, e ∈ xs → (cells e).length = es) ∧
      (∀ u, u ∈ arr.toList → u.oneCell' = true) ∧
      (∀ (i : Nat) e (j : Nat) x u, xs[i]? = some e → (cells e)[j]? = some x → arr[i * es + j]? = some u → DR F w x u) ∧ (∀ o, F r o ↔ o < fz * es) ∧ fz ≤ xs.length
  | .mp L => ∃ r k es c, p = some (r, k) ∧ w.heap[r]? = some (.map es c) ∧ es.toList.map (fun x => (x.key, x.val)) = L ∧ (∀ x, x ∈ L → x.2.oneCell' = true) ∧ ∀ o, ¬ F r o

abbrev Hp := Nat → Option Blk
/-- the memory that a call keeps track of -/
structure Rel (ν : Nu) (F : Fz) (w : World) (H : Hp) : Prop where
  inj : ∀ i j r k k', (H i).isSome = true → (H j).isSome = true → ν i = some (r, k) → ν j = some (r, k') → i = j
  blk : ∀ i b, H i = some b → BR ν F w (ν i) b
  old : ∀ b o, F b o → (w.cell? ⟨b, o, none⟩).isSome = true

/-- the blocks that are the call's own -/
def Mine (ν : Nu) (H : Hp) (r : Nat) : Prop := ∃ i k, (H i).isSome = true ∧ ν i = some (r, k)

/-- what a step may do to memory -/
structure Evo (ν : Nu) (F : Fz) (w : World) (H : Hp) (ν' : Nu) (F' : Fz) (w' : World) (H' : Hp) : Prop where
  keep : Keep F w F' w'
  os : w'.os = w.os
  tape : w'.tape = w.tape
  output : w'.output = w.output
  size : w.heap.size ≤ w'.heap.size
  frame : ∀ r, r < w.heap.size → ¬ Mine ν H r → w'.heap[r]? = w.heap[r]?
  mine : ∀ r, Mine ν' H' r → Mine ν H r ∨ w.heap.size ≤ r
  fz : ∀ b o, F' b o → F b o ∨ Mine ν H b ∨ w.heap.size ≤ b

theorem Evo.refl (ν : Nu) (F : Fz) (w : World) (H : Hp) : Evo ν F w H ν F w H :=
  ⟨Keep.refl _ _, rfl, rfl, rfl, Nat.le_refl _, fun _ _ _ => rfl, fun _ h => .inl h, fun _ _ h => .inl h⟩
theorem Evo.trans {ν ν' ν'' : Nu} {F F' F'' : Fz} {w w' w'' : World} {H H' H'' : Hp} (h : Evo ν F w H ν' F' w' H') (k : Evo ν' F' w' H' ν'' F'' w'' H'') : Evo ν F w H ν'' F'' w'' H'' := by
  refine ⟨h.keep.trans k.keep, k.os.trans h.os, k.tape.trans h.tape, k.output.trans h.output, Nat.le_trans h.size k.size, fun r hr hm => ?_, fun r hr => ?_, fun b o hb => ?_⟩
  · refine (k.frame r (Nat.lt_of_lt_of_le hr h.size) fun hx => ?_).trans (h.frame r hr hm)
    rcases h.mine r hx with h1 | h1
    · exact hm h1
    · omega
  · rcases k.mine r hr with h1 | h1
    · exact h.mine r h1
    · exact .inr (Nat.le_trans h.size h1)
  · rcases k.fz b o hb with h1 | h1 | h1
    · exact h.fz b o h1
    · exact .inr (h.mine b h1)
    · exact .inr (.inr (Nat.le_trans h.size h1))
theorem Evo.drew {ν ν' : Nu} {F F' : Fz} {w w' : World} {H H' : Hp} (h : Evo ν F w.drew H ν' F' w' H') : Evo ν F w H ν' F' w' H' :=
  ⟨⟨h.keep.sub, h.keep.same⟩, h.os, h.tape, h.output, h.size, h.frame, h.mine, h.fz⟩
theorem Keep.drew (F : Fz) (w : World) : Keep F w F w.drew := ⟨fun _ _ h => h, fun _ _ _ => rfl⟩
theorem BR.keep {ν ν' : Nu} {F F' : Fz} {w w' : World} {p : Option (Nat × Nat)} {b : Blk} (h : BR ν F w p b) (k : Keep F w F' w') (m : More ν ν')
    (hw : ∀ r k, p = some (r, k) → w'.heap[r]? = w.heap[r]?) (hF : ∀ r k, p = some (r, k) → ∀ o, F' r o ↔ F r o) : BR ν' F' w' p b := by
  cases b with
  | box cells =>
    obtain ⟨r, q, arr, T, e, h1, h2, h2', h3, h4⟩ := h
    exact ⟨r, q, arr, T, e, (hw r q e).trans h1, h2, h2', fun j g u a b => (h3 j g u a b).keep k m, fun o ho => h4 o ((hF r q e o).1 ho)⟩
  | row ty es dflt cs xs fz =>
    rcases h with h | ⟨r, q, arr, e, h1, h1', h2, h3, h4, h5, h6, h7, h8⟩
    · exact .inl h
    · exact .inr ⟨r, q, arr, e, (hw r q e).trans h1, h1', h2, h3, h4, h5, fun i e j x u a b c => (h6 i e j x u a b c).keep k, fun o => (hF r q e o).trans (h7 o), h8⟩
  | mp L =>
    obtain ⟨r, q, es, c, e, h1, h2, h3, h4⟩ := h
    exact ⟨r, q, es, c, e, (hw r q e).trans h1, h2, h3, fun o ho => h4 o ((hF r q e o).1 ho)⟩
theorem BR.lt {ν : Nu} {F : Fz} {w : World} {r k : Nat} {b : Blk} (h : BR ν F w (some (r, k)) b) : r < w.heap.size := by
  cases b with
  | box cells =>
    obtain ⟨r', q, arr, T, e, h1, _⟩ := h
    cases e; exact (Array.getElem?_eq_some_iff.1 h1).1
  | row ty es dflt cs xs fz =>
    rcases h with ⟨h, _⟩ | ⟨r', q, arr, e, h1, _⟩
    · cases h
    · cases e; exact (Array.getElem?_eq_some_iff.1 h1).1
  | mp L =>
    obtain ⟨r', q, es, c, e, h1, _⟩ := h
    cases e; exact (Array.getElem?_eq_some_iff.1 h1).1
theorem Rel.drew {ν : Nu} {F : Fz} {w : World} {H : Hp} (h : Rel ν F w H) : Rel ν F w.drew H :=
  ⟨h.inj, fun i b hb => (h.blk i b hb).keep (Keep.drew F w) (More.refl _) (fun _ _ _ => rfl) (fun _ _ _ _ => Iff.rfl), h.old⟩
theorem Rel.mine_lt {ν : Nu} {F : Fz} {w : World} {H : Hp} (h : Rel ν F w H) {r : Nat} (hm : Mine ν H r) : r < w.heap.size := by
  obtain ⟨i, k, hi, e⟩ := hm
  obtain ⟨b, hb⟩ := Option.isSome_iff_exists.1 hi
  have := h.blk i b hb
  rw [e] at this
  exact this.lt
theorem Rel.old_lt {ν : Nu} {F : Fz} {w : World} {H : Hp} (h : Rel ν F w H) {b o : Nat} (hf : F b o) : b < w.heap.size := by
  obtain ⟨v, hv⟩ := Option.isSome_iff_exists.1 (h.old b o hf)
  exact World.block_lt_of_cell? w ⟨b, o, none⟩ hv

/-- the effect of an operation: its value; what becomes of the blocks by name; which names it looks at; how many new names it takes -/
structure Eff : Type 1 where
  g : G
  upd : List (Nat × Option Blk) := []
  fp : List Nat := []
  new : List Nat := []

def look {α : Type 1} (l : List (Nat × Option α)) (H : Nat → Option α) (i : Nat) : Option α :=
  match l with
  | [] => H i
  | (j, b) :: l => bif Nat.beq i j then b else look l H i
end Go.Gh

namespace Go.Gh
open Go Go.RowKit

/-- names beside which an operation leaves everything -/
def touched (E : Eff) : List Nat := E.upd.map (·.1)

/-- what one operation does, told of real memory -/
def GOp (P : Program) (o : Oper) (ρ : Operand → G) (H : Hp) (E : Eff) : Prop :=
  ∀ (ν : Nu) (F : Fz) (w : World) (a : Act), (∀ x, x ∈ o.op.operands.toList → VR ν F w (ρ x) (a.eval x)) → Rel ν F w H → (∀ i, i ∈ E.new → ν i = none) →
    o.wp P a w (fun a' w' => ∃ (ν' : Nu) (F' : Fz) (v : Value), a' = a.put o.dst v ∧ VR ν' F' w' E.g v ∧ Rel ν' F' w' (look E.upd H) ∧ More ν ν' ∧ (∀ i, ν' i ≠ ν i → i ∈ E.new) ∧
      Evo ν F w H ν' F' w' (look E.upd H)) (fun _ _ _ => False)

/-- the same, in any memory that agrees where the operation looks -/
def LOp (P : Program) (o : Oper) (ρ : Operand → G) (H : Hp) (E : Eff) : Prop :=
  ∀ H' : Hp, (∀ i, i ∈ E.fp → H' i = H i) → (∀ i, i ∈ E.new → H' i = none) → GOp P o ρ H' E

structure St : Type 1 where
  tmps : List (Nat × G)
  hp : List (Nat × Option Blk)
  next : Nat

def getG : List (Nat × G) → Nat → G
  | [], _ => .junk
  | (k, g) :: l, t => bif Nat.beq t k then g else getG l t
def St.get (σ : St) (t : Nat) : G := getG σ.tmps t
def noHp : Hp := fun _ => none
def St.H (σ : St) : Hp := look σ.hp noHp

def constG : Value → G
  | .agg _ => .junk
  | .tuple _ => .junk
  | v => .d (.sc v)
def St.ev (σ : St) : Operand → G
  | .tmp t => σ.get t
  | .const v => constG v
  | .func f => .d (.sc (.func (.func f) #[] #[]))
  | .global g => .d (.sc (.pointer (some ⟨g, 0, none⟩)))

structure RS (σ : St) (ν : Nu) (F : Fz) (a : Act) (w : World) (nt p : Nat) : Prop where
  pin : p ≤ σ.next
  vals : ∀ t, VR ν F w (σ.get t) (a.tmps.getD t undef)
  rel : Rel ν F w σ.H
  defers : a.defers = []
  free : ∀ i, σ.next ≤ i → ν i = none
  size : a.tmps.size = nt
  fresh : ∀ i, σ.next ≤ i → σ.H i = none

theorem VR.const {ν : Nu} {F : Fz} {w : World} (v : Value) : VR ν F w (constG v) v := by
  cases v <;> first | exact .junk _ | exact .d (.sc _ rfl)
theorem ev_sound {σ : St} {ν : Nu} {F : Fz} {a : Act} {w : World} (h : ∀ t, VR ν F w (σ.get t) (a.tmps.getD t undef)) (x : Operand) : VR ν F w (σ.ev x) (a.eval x) := by
  cases x with
  | tmp t => exact h t
  | const v => exact .const v
  | func f => exact .d (.sc _ rfl)
  | global g => exact .d (.sc _ rfl)

/-- a value known under a condition -/
def strip : G → G
  | .opt _ g => g
  | g => g
def stripOk (c : Bool) : G → Prop
  | .opt c' _ => c = true → c' = true
  | _ => True
theorem strip_sound {ν : Nu} {F : Fz} {w : World} {g : G} {v : Value} (h : VR ν F w g v) {c : Bool} (hc : c = true) (ho : stripOk c g) : VR ν F w (strip g) v := by
  cases g <;> first | exact h | skip
  cases h with
  | opt c' g' u h h0 => exact h (ho hc)

/-- a step: is it carried out; its effect; what its variable holds after it -/
structure Step : Type 1 where
  c : Bool
  ρ : Operand → G
  E : Eff
  val : G

def wantOf (ops : Array Oper) (σ : St) (o : Oper) : Option Bool :=
  match o.guard with
  | none => some true
  | some (j, want) =>
    match (ops[j]?).bind (·.dst) with
    | none => none
    | some d =>
      match σ.get d with
      | .d (.sc (.bool b)) => match want with
        | true => some b
        | false => some (!b)
      | .opt c' (.d (.sc (.bool b))) => match want with
        | true => some (c' && b)
        | false => some (c' && !b)
      | _ => none

structure SOK (P : Program) (ops : Array Oper) (nt : Nat) (σ : St) (o : Oper) (s : Step) : Prop where
  want : wantOf ops σ o = some s.c
  strips : ∀ x, x ∈ o.op.operands.toList → ∀ (ν : Nu) (F : Fz) (w : World) (v : Value), s.c = true → VR ν F w (σ.ev x) v → VR ν F w (s.ρ x) v
  op : s.c = true → LOp P o s.ρ σ.H s.E
  val : (s.c = true ∧ s.val = s.E.g) ∨ s.val = .opt s.c s.E.g ∨ s.val = .junk
  quiet : s.c = true ∨ (s.E.upd = [] ∧ s.E.new = [])
  upd : ∀ i, i ∈ touched s.E → i ∈ s.E.fp ∨ i ∈ s.E.new
  new : ∀ i, i ∈ s.E.new → σ.next ≤ i ∧ i < σ.next + s.E.new.length
  fpl : ∀ i, i ∈ s.E.fp → i < σ.next
  newt : ∀ i, i ∈ s.E.new → i ∈ touched s.E
  dst : ∀ d, o.dst = some d → d < nt

def St.app (σ : St) (o : Oper) (s : Step) : St :=
  { tmps := match o.dst with
      | some d => (d, s.val) :: σ.tmps
      | none => σ.tmps
    hp := s.E.upd ++ σ.hp
    next := σ.next + s.E.new.length }

theorem look_append {α : Type 1} (l l' : List (Nat × Option α)) (H : Nat → Option α) : look (l ++ l') H = look l (look l' H) := by
  funext i
  induction l with
  | nil => rfl
  | cons p l ih =>
    obtain ⟨j, b⟩ := p
    simp only [List.cons_append, look, ih]
theorem look_nil {α : Type 1} (H : Nat → Option α) : look [] H = H := rfl
theorem look_other {α : Type 1} (l : List (Nat × Option α)) (H : Nat → Option α) (i : Nat) (h : i ∉ l.map (·.1)) : look l H i = H i := by
  induction l with
  | nil => rfl
  | cons p l ih =>
    obtain ⟨j, b⟩ := p
    simp only [List.map_cons, List.mem_cons, not_or] at h
    have hne : Nat.beq i j = false := by
      cases e : Nat.beq i j with
      | false => rfl
      | true => exact absurd (Nat.eq_of_beq_eq_true e) h.1
    simp only [look, hne, cond_false]
    exact ih h.2
theorem look_congr {α : Type 1} (l : List (Nat × Option α)) (H H' : Nat → Option α) (i : Nat) (h : H i = H' i) : look l H i = look l H' i := by
  induction l with
  | nil => exact h
  | cons p l ih =>
    obtain ⟨j, b⟩ := p
    simp only [look, ih]
theorem look_mem {α : Type 1} (l : List (Nat × Option α)) (H H' : Nat → Option α) (i : Nat) (h : i ∈ l.map (·.1)) : look l H i = look l H' i := by
  induction l with
  | nil => simp at h
  | cons p l ih =>
    obtain ⟨j, b⟩ := p
    simp only [List.map_cons, List.mem_cons] at h
    simp only [look]
    cases e : Nat.beq i j with
    | true => rfl
    | false =>
      simp only [cond_false]
      refine ih (h.resolve_left fun hh => ?_)
      subst hh
      rw [Nat.beq_refl] at e
      cases e

theorem St.H_app (σ : St) (o : Oper) (s : Step) : (σ.app o s).H = look s.E.upd σ.H := look_append _ _ _
theorem SOK.touch {P : Program} {ops : Array Oper} {nt : Nat} {σ : St} {o : Oper} {s : Step} (h : SOK P ops nt σ o s) {i : Nat} (hi : i ∈ touched s.E) : i < σ.next + s.E.new.length := by
  rcases h.upd i hi with h1 | h1
  · have := h.fpl i h1; omega
  · exact (h.new i h1).2
theorem St.get_app_other (σ : St) (o : Oper) (s : Step) (t : Nat) (h : o.dst ≠ some t) : (σ.app o s).get t = σ.get t := by
  unfold St.get St.app
  cases hd : o.dst with
  | none => rfl
  | some d =>
    have hne : Nat.beq t d = false := by
      cases e : Nat.beq t d with
      | false => rfl
      | true => exact absurd (by rw [hd, Nat.eq_of_beq_eq_true e]) h
    simp only [getG, hne, cond_false]
theorem St.get_app_same (σ : St) (o : Oper) (s : Step) (t : Nat) (h : o.dst = some t) : (σ.app o s).get t = s.val := by
  unfold St.get St.app
  rw [h]
  simp only [getG, Nat.beq_refl, cond_true]
theorem St.ev_congr {σ σ' : St} (x : Operand) (h : ∀ t, x = .tmp t → σ'.get t = σ.get t) : σ'.ev x = σ.ev x := by
  cases x with
  | tmp t => exact h t rfl
  | _ => rfl

theorem Oper.wp_mono2 {P : Program} {o : Oper} {a : Act} {w : World} {K K' : Act → World → Prop} {Q Q' : Exit → Act → World → Prop} (h : ∀ a w, K a w → K' a w) (hq : ∀ e a w, Q e a w → Q' e a w)
    (hh : o.wp P a w K Q) : o.wp P a w K' Q' := by
  unfold Oper.wp at *
  generalize (execOp a.eval o).run P w = r at *
  cases r with
  | ok n w' =>
    cases n <;> simp only [Oper.upon] at hh ⊢ <;>
      first
        | exact h _ _ hh
        | exact Calls.mono hh (fun e w'' he => by cases e <;> first | exact h _ _ he | exact hq _ _ _ he | exact (let ⟨a, w, q⟩ := he; ⟨a, w, hq _ _ _ q⟩))
        | exact Rows.mono hh (fun _ _ he => h _ _ he)
  | halt x w' => cases x <;> simp only [Oper.upon] at hh ⊢ <;> first | exact hh | exact hq _ _ _ hh

theorem wanted_of {ops : Array Oper} {σ : St} {o : Oper} {c : Bool} (h : wantOf ops σ o = some c) {ν : Nu} {F : Fz} {w : World} {a : Act} (hv : ∀ t, VR ν F w (σ.get t) (a.tmps.getD t undef))
    (hsz : ∀ j want d, o.guard = some (j, want) → (ops[j]?).bind (·.dst) = some d → d < a.tmps.size) : Region.wanted o (yielded ops a.tmps) = c := by
  unfold wantOf at h
  unfold Region.wanted
  cases hg : o.guard with
  | none => rw [hg] at h; injection h
  | some p =>
    obtain ⟨j, want⟩ := p
    simp only [hg] at h ⊢
    cases hd : (ops[j]?).bind (·.dst) with
    | none => rw [hd] at h; cases h
    | some d =>
      simp only [hd] at h
      have hlt := hsz j want d hg hd
      have hv' := hv d
      have hy : yielded ops a.tmps j = match a.tmps[d]? with | some (.bool b) => some b | _ => none := by unfold yielded; rw [hd]; rfl
      have hget : a.tmps[d]? = some (a.tmps.getD d undef) := by simp [Array.getD, hlt]
      rw [hy, hget]
      generalize a.tmps.getD d undef = u at hv'
      generalize hG : σ.get d = g at h hv'
      split at h
      · rename_i b
        cases hv' with
        | d hd =>
          cases hd with
          | sc v hv =>
            cases want <;> (have hc := Option.some.inj h; rw [← hc]; cases b <;> rfl)
      · rename_i c' b
        cases hv' with
        | opt _ _ _ h1 h0 =>
          cases c' with
          | false => rw [h0 rfl]; cases want <;> (have hc := Option.some.inj h; rw [← hc]; rfl)
          | true =>
            have h2 := h1 rfl
            cases h2 with
            | d hd =>
              cases hd with
              | sc v hv => cases want <;> (have hc := Option.some.inj h; rw [← hc]; cases b <;> rfl)
      · cases h

/-- the variables that an operation looks at or writes -/
def seesOf (ops : Array Oper) (o : Oper) : List Nat := o.looksAt ops

/-- one operation, from a state that agrees with the text's where it looks -/
theorem step_sound {P : Program} {ops : Array Oper} {nt : Nat} {σ : St} {o : Oper} {s : Step} (hs : SOK P ops nt σ o s) {τ : St} (hT : ∀ t, t ∈ o.looksAt ops → τ.get t = σ.get t)
    (hH : ∀ i, i ∈ s.E.fp → τ.H i = σ.H i) (hN : ∀ i, i ∈ s.E.new → τ.H i = none) {ν : Nu} {F : Fz} {w : World} {a : Act}
    (vals : ∀ t, VR ν F w (τ.get t) (a.tmps.getD t undef)) (rel : Rel ν F w τ.H) (defers : a.defers = []) (hnew : ∀ i, i ∈ s.E.new → ν i = none) (size : a.tmps.size = nt)
    (hguard : ∀ j want d, o.guard = some (j, want) → (ops[j]?).bind (·.dst) = some d → d < nt)
    {K : Act → World → Prop} {Q : Exit → Act → World → Prop}
    (h : ∀ a' w' (ν' : Nu) (F' : Fz), (∀ t, o.dst ≠ some t → VR ν' F' w' (τ.get t) (a'.tmps.getD t undef)) → (∀ t, o.dst = some t → VR ν' F' w' s.val (a'.tmps.getD t undef)) →
      Rel ν' F' w' (look s.E.upd τ.H) → a'.defers = [] → (∀ i, ν' i ≠ ν i → i ∈ s.E.new) → a'.tmps.size = nt → Evo ν F w τ.H ν' F' w' (look s.E.upd τ.H) → K a' w') :
    if Region.wanted o (yielded ops a.tmps) then o.wp P a w K Q ∨ (o.asks P a w ∧ LetsOut Q) else K (a.put o.dst undef) w := by
  have hwant : wantOf ops τ o = some s.c := by
    rw [← hs.want]
    unfold wantOf
    cases hg : o.guard with
    | none => rfl
    | some p =>
      obtain ⟨j, want⟩ := p
      simp only []
      cases hd : (ops[j]?).bind (·.dst) with
      | none => rfl
      | some d =>
        simp only []
        rw [hT d (by simp [Oper.looksAt, hg, hd])]
  have hev : ∀ x, x ∈ o.op.operands.toList → τ.ev x = σ.ev x := fun x hx => St.ev_congr x fun t e => hT t (by
    subst e
    simp only [Oper.looksAt, List.mem_append, List.mem_filterMap]
    exact .inl ⟨_, hx, rfl⟩)
  rw [wanted_of hwant vals (fun j want d e1 e2 => by rw [size]; exact hguard j want d e1 e2)]
  have hput : ∀ v, (a.put o.dst v).defers = [] := fun v => by cases hd : o.dst <;> simp [Act.put, defers]
  have hsize : ∀ v, (a.put o.dst v).tmps.size = nt := fun v => by cases hd : o.dst <;> simp [Act.put, size]
  have hother : ∀ v t, o.dst ≠ some t → (a.put o.dst v).tmps.getD t undef = a.tmps.getD t undef := fun v t ht => by
    cases hd : o.dst with
    | none => rfl
    | some d =>
      have hne : d ≠ t := fun e => ht (by rw [hd, e])
      simp [Act.put, Array.getElem?_setIfInBounds_ne hne]
  have hsame : ∀ v t, o.dst = some t → (a.put o.dst v).tmps.getD t undef = v := fun v t ht => by
    have hlt := hs.dst t ht
    rw [ht]
    simp [Act.put, size, hlt]
  cases hc : s.c with
  | true =>
    rw [if_pos rfl]
    refine .inl (Oper.wp_mono2 (Q := fun _ _ _ => False) ?_ (fun _ _ _ h => h.elim) (hs.op hc τ.H (fun i hi => hH i hi) hN ν F w a ?_ rel hnew))
    · rintro a' w' ⟨ν', F', v, rfl, hv, hr, hm, hmn, he⟩
      refine h _ _ ν' F' (fun t ht => ?_) (fun t ht => ?_) hr (hput v) hmn (hsize v) he
      · rw [hother v t ht]; exact (vals t).keep he.keep hm
      · rw [hsame v t ht]
        rcases hs.val with ⟨_, e⟩ | e | e
        · rw [e]; exact hv
        · rw [e]; exact .opt _ _ _ (fun _ => hv) (fun hx => by rw [hc] at hx; cases hx)
        · rw [e]; exact .junk _
    · intro x hx
      have hst := hs.strips x hx
      rw [hc] at hst
      refine hst ν F w _ rfl ?_
      rw [← hev x hx]
      exact ev_sound vals x
  | false =>
    rw [if_neg (by simp)]
    obtain ⟨q1, q2⟩ := hs.quiet.resolve_left (by rw [hc]; simp)
    have hk : look s.E.upd τ.H = τ.H := by rw [q1]; rfl
    refine h _ _ ν F (fun t ht => ?_) (fun t ht => ?_) (by rw [hk]; exact rel) (hput _) (fun i hi => absurd rfl hi) (hsize _) (by rw [hk]; exact Evo.refl _ _ _ _)
    · rw [hother undef t ht]; exact vals t
    · rw [hsame undef t ht]
      rcases hs.val with ⟨e, _⟩ | e | e
      · rw [hc] at e; cases e
      · rw [e]; exact .opt _ _ _ (fun hx => by rw [hc] at hx; cases hx) (fun _ => rfl)
      · rw [e]; exact .junk _

end Go.Gh

namespace Go.Gh
open Go Go.RowKit

def GPost (nt p : Nat) (ν : Nu) (F : Fz) (w : World) (H : Hp) (Q : Exit → St → Prop) : Exit → Act → World → Prop :=
  fun e a' w' => ∃ (σ' : St) (ν' : Nu) (F' : Fz), Q e σ' ∧ RS σ' ν' F' a' w' nt p ∧ Evo ν F w H ν' F' w' σ'.H ∧ ∀ i, i < p → ν' i = ν i

/-- what a piece of code does, from a state -/
def GW (P : Program) (nt p : Nat) (c : Code) (σ : St) (Q : Exit → St → Prop) : Prop :=
  ∀ (ν : Nu) (F : Fz) (a : Act) (w : World), RS σ ν F a w nt p → c.wp P (GPost nt p ν F w σ.H Q) a w

structure Foot where
  fp : List Nat
  tc : List Nat
def footOf (s : Step) : Foot := ⟨s.E.fp, touched s.E⟩

inductive GRun (P : Program) (ops : Array Oper) (nt : Nat) (Q : St → List Foot → Prop) : List Oper → St → List Foot → Prop
  | nil (σ : St) (feet : List Foot) (h : Q σ feet) : GRun P ops nt Q [] σ feet
  | cons (o : Oper) (rest : List Oper) (σ : St) (feet : List Foot) (s : Step) (hs : SOK P ops nt σ o s) (h : GRun P ops nt Q rest (σ.app o s) (feet ++ [footOf s])) : GRun P ops nt Q (o :: rest) σ feet

def guardsOk (ops : Array Oper) (nt : Nat) : Bool := ops.all fun o => match o.dst with
  | some d => decide (d < nt)
  | none => true
theorem guardsOk_spec {ops : Array Oper} {nt : Nat} (h : guardsOk ops nt = true) {j d : Nat} (hd : (ops[j]?).bind (·.dst) = some d) : d < nt := by
  cases ho : ops[j]? with
  | none => rw [ho] at hd; cases hd
  | some o =>
    rw [ho] at hd
    have hmem : o ∈ ops := Array.mem_of_getElem? ho
    have := (Array.all_eq_true_iff_forall_mem.1 h) o hmem
    simp only [Option.bind_some] at hd
    simpa [hd] using this

section seq
variable {P : Program} {ops : Array Oper} {nt p : Nat} {Q : Exit → St → Prop}

theorem run_text (hg : guardsOk ops nt = true) {ν0 : Nu} {F0 : Fz} {w0 : World} {H0 : Hp} :
    ∀ (rest : List Oper) (σ : St) (feet : List Foot) (k : Nat), ops.toList.drop k = rest → GRun P ops nt (fun σ _ => Q .normal σ) rest σ feet →
    ∀ (ν : Nu) (F : Fz) (a : Act) (w : World), RS σ ν F a w nt p → Evo ν0 F0 w0 H0 ν F w σ.H → (∀ i, i < p → ν i = ν0 i) →
    wpOps P ops (GPost nt p ν0 F0 w0 H0 Q) (List.range' k rest.length) a w := by
  intro rest
  induction rest with
  | nil =>
    intro σ feet k hk h ν F a w hr he hp
    cases h with
    | nil _ _ h => exact ⟨σ, ν, F, h, hr, he, hp⟩
  | cons o rest ih =>
    intro σ feet k hk h ν F a w hr he hp
    cases h with
    | cons _ _ _ _ s hs h =>
      have hlt : k < ops.toList.length := by
        rcases Nat.lt_or_ge k ops.toList.length with h | h
        · exact h
        · rw [List.drop_eq_nil_of_le h] at hk; cases hk
      have hok : ops[k]? = some o := by
        have : ops.toList[k]? = some o := by
          have := congrArg (·[0]?) hk
          simpa using this
        simpa using this
      have hrest : ops.toList.drop (k + 1) = rest := by
        have := congrArg List.tail hk
        simpa [List.tail_drop] using this
      rw [List.length_cons, List.range'_succ, wpOps, hok]
      have hN : ∀ i, i ∈ s.E.new → σ.H i = none := fun i hi => hr.fresh i (hs.new i hi).1
      refine step_sound hs (fun _ _ => rfl) (fun _ _ => rfl) hN hr.vals hr.rel hr.defers (fun i hi => hr.free i (hs.new i hi).1) hr.size (fun j want d _ hd => guardsOk_spec hg hd) ?_
      intro a' w' ν' F' v1 v2 hrel hdef hnew hsz hev
      refine ih (σ.app o s) _ (k + 1) hrest h ν' F' a' w' ⟨?_, ?_, ?_, hdef, ?_, hsz, ?_⟩ (he.trans (by rw [St.H_app]; exact hev)) (fun i hi => ?_)
      · exact Nat.le_trans hr.pin (Nat.le_add_right _ _)
      · intro t
        by_cases ht : o.dst = some t
        · rw [St.get_app_same _ _ _ _ ht]; exact v2 t ht
        · rw [St.get_app_other _ _ _ _ ht]; exact v1 t ht
      · rw [St.H_app]; exact hrel
      · intro i hi
        have hi' : σ.next + s.E.new.length ≤ i := hi
        have : ν' i = ν i := Classical.byContradiction fun hne => by have := hs.new i (hnew i hne); omega
        rw [this]; exact hr.free i (by omega)
      · intro i hi
        have hi' : σ.next + s.E.new.length ≤ i := hi
        rw [St.H_app, look_other _ _ _ (fun hm => by have := hs.touch hm; omega)]
        exact hr.fresh i (by omega)
      · have : ν' i = ν i := Classical.byContradiction fun hne => by have := hs.new i (hnew i hne); have := hr.pin; omega
        rw [this]; exact hp i hi

theorem gw_region_text {id : Nat} {σ : St} (hg : guardsOk ops nt = true) (h : GRun P ops nt (fun σ _ => Q .normal σ) ops.toList σ []) : GW P nt p (.region id ops false) σ Q := by
  intro ν F a w hr
  refine wp_region ?_
  rw [List.range_eq_range', ← Array.length_toList]
  exact run_text hg ops.toList σ [] 0 rfl h ν F a w hr (Evo.refl _ _ _ _) (fun _ _ => rfl)
end seq

/-! any order -/
theorem foldl_bits (acc : Array Nat) (i : Nat) : ∀ (l : List Edge) (s : Nat), (l.foldl (fun s e => if Region.binds .any e then s ||| 2 ^ e.on ||| acc.getD e.on 0 else s) s).testBit i = true →
    s.testBit i = true ∨ ∃ e, e ∈ l ∧ Region.binds .any e = true ∧ (e.on = i ∨ (acc.getD e.on 0).testBit i = true) := by
  intro l
  induction l with
  | nil => intro s h; exact .inl h
  | cons e l ih =>
    intro s h
    simp only [List.foldl_cons] at h
    rcases ih _ h with h1 | ⟨e', he', hb, hx⟩
    · by_cases hb : Region.binds .any e = true
      · rw [if_pos hb] at h1
        simp only [Nat.testBit_or, Bool.or_eq_true, Nat.testBit_two_pow] at h1
        rcases h1 with (h1 | h1) | h1
        · exact .inl h1
        · exact .inr ⟨e, by simp, hb, .inl (by simpa using h1)⟩
        · exact .inr ⟨e, by simp, hb, .inr h1⟩
      · rw [if_neg hb] at h1; exact .inl h1
    · exact .inr ⟨e', by simp [he'], hb, hx⟩
theorem before_aux : ∀ (l pre : List Oper) (acc : Array Nat), acc.size = pre.length →
    (∀ j i, (acc.getD j 0).testBit i = true → ∃ o, pre[j]? = some o ∧ ∃ e, e ∈ o.after.toList ∧ Region.binds .any e = true ∧ (e.on = i ∨ (e.on < j ∧ (acc.getD e.on 0).testBit i = true))) →
    ∀ j i, ((l.foldl (fun acc (o : Oper) => acc.push (o.after.foldl (fun s e => if Region.binds .any e then s ||| 2 ^ e.on ||| acc.getD e.on 0 else s) 0)) acc).getD j 0).testBit i = true →
      ∃ o, (pre ++ l)[j]? = some o ∧ ∃ e, e ∈ o.after.toList ∧ Region.binds .any e = true ∧ (e.on = i ∨ (e.on < j ∧ ((l.foldl (fun acc (o : Oper) => acc.push (o.after.foldl (fun s e => if Region.binds .any e then s ||| 2 ^ e.on ||| acc.getD e.on 0 else s) 0)) acc).getD e.on 0).testBit i = true)) := by
  intro l
  induction l with
  | nil => intro pre acc _ h; simpa using h
  | cons o l ih =>
    intro pre acc hs h j i hj
    simp only [List.foldl_cons] at hj ⊢
    have := ih (pre ++ [o]) (acc.push (o.after.foldl (fun s e => if Region.binds .any e then s ||| 2 ^ e.on ||| acc.getD e.on 0 else s) 0)) (by simp [hs]) (fun j i hb => ?_) j i hj
    · simpa using this
    · have hpush : ∀ (x : Nat) (j : Nat), (acc.push x).getD j 0 = if j = acc.size then x else acc.getD j 0 := fun x j => by
        simp only [Array.getD_eq_getD_getElem?, Array.getElem?_push]
        split <;> simp_all
      rw [hpush] at hb
      by_cases hjs : j = acc.size
      · rw [if_pos hjs] at hb
        refine ⟨o, by rw [hjs, hs]; simp, ?_⟩
        rw [← Array.foldl_toList] at hb
        rcases foldl_bits acc i _ _ hb with h1 | ⟨e, he, hbe, hx⟩
        · simp at h1
        · refine ⟨e, he, hbe, hx.imp id fun hx => ?_⟩
          have hlt : e.on < acc.size := by
            rcases Nat.lt_or_ge e.on acc.size with h | h
            · exact h
            · simp [Array.getD_eq_getD_getElem?, Array.getElem?_eq_none h] at hx
          exact ⟨by omega, by rw [hpush, if_neg (by omega)]; exact hx⟩
      · rw [if_neg hjs] at hb
        obtain ⟨o', ho', e, he, hbe, hx⟩ := h j i hb
        have hlt : j < pre.length := (List.getElem?_eq_some_iff.1 ho').1
        refine ⟨o', by rw [List.getElem?_append_left hlt]; exact ho', e, he, hbe, hx.imp id fun hx => ⟨hx.1, ?_⟩⟩
        rw [hpush, if_neg (by omega)]; exact hx.2
def bef (ops : Array Oper) (i j : Nat) : Bool := ((Region.before ops).getD j 0).testBit i
theorem bef_spec {ops : Array Oper} {i j : Nat} (h : bef ops i j = true) : ∃ o, ops[j]? = some o ∧ ∃ e, e ∈ o.after.toList ∧ Region.binds .any e = true ∧ (e.on = i ∨ (e.on < j ∧ bef ops i e.on = true)) := by
  have := before_aux ops.toList [] #[] rfl (fun j i h => by simp at h) j i (by
    unfold bef Region.before at h
    rw [← Array.foldl_toList] at h
    exact h)
  unfold bef Region.before
  rw [← Array.foldl_toList]
  simpa using this
end Go.Gh

namespace Go.Gh
open Go Go.RowKit
set_option linter.unusedVariables false

def disj (a b : List Nat) : Bool := a.all fun i => b.all fun j => !Nat.beq i j
theorem disj_spec {a b : List Nat} (h : disj a b = true) {i : Nat} (ha : i ∈ a) : i ∉ b := fun hb => by
  simp only [disj, List.all_eq_true] at h
  have := h i ha i hb
  rw [Nat.beq_refl] at this
  cases this
def footFree (x y : Foot) : Bool := disj x.tc y.fp && disj x.tc y.tc && disj y.tc x.fp
def pairOk (ops : Array Oper) (feet : List Foot) (i j : Nat) : Bool :=
  bef ops i j || match ops[i]?, ops[j]?, feet[i]?, feet[j]? with
    | some x, some y, some fx, some fy => x.apart ops y && footFree fx fy
    | _, _, _, _ => false
def orderOk (ops : Array Oper) (feet : List Foot) : Bool :=
  (List.range ops.size).all fun j => (List.range j).all fun i => pairOk ops feet i j
def edgesOk (ops : Array Oper) : Bool :=
  (List.range ops.size).all fun j => match ops[j]? with
    | some o => o.after.all fun e => !Region.binds .any e || decide (e.on < j)
    | none => true

section
variable (ops : List Oper) (ss : Nat → Step) (σ : St)
def stAt (S : Nat → Bool) : Nat → St
  | 0 => σ
  | k + 1 => match ops[k]? with
    | some o => if S k then (stAt S k).app o (ss k) else stAt S k
    | none => stAt S k
variable {ops ss σ}
theorem stAt_get {S S' : Nat → Bool} {t : Nat} : ∀ (m : Nat), (∀ k, k < m → ∀ o, ops[k]? = some o → o.dst = some t → S k = S' k) → (stAt ops ss σ S m).get t = (stAt ops ss σ S' m).get t := by
  intro m
  induction m with
  | zero => intro _; rfl
  | succ m ih =>
    intro h
    have ih' := ih fun k hk => h k (by omega)
    simp only [stAt]
    cases ho : ops[m]? with
    | none => exact ih'
    | some o =>
      simp only []
      by_cases hd : o.dst = some t
      · rw [h m (by omega) o ho hd]
        split
        · rw [St.get_app_same _ _ _ _ hd, St.get_app_same _ _ _ _ hd]
        · exact ih'
      · have e1 : ∀ (b : Bool) (τ : St), (if b = true then τ.app o (ss m) else τ).get t = τ.get t := fun b τ => by
          split
          · exact St.get_app_other _ _ _ _ hd
          · rfl
        rw [e1, e1]; exact ih'
theorem stAt_H {S S' : Nat → Bool} {i : Nat} : ∀ (m : Nat), (∀ k, k < m → (ops[k]?).isSome = true → i ∈ touched (ss k).E → S k = S' k) → (stAt ops ss σ S m).H i = (stAt ops ss σ S' m).H i := by
  intro m
  induction m with
  | zero => intro _; rfl
  | succ m ih =>
    intro h
    have ih' := ih fun k hk => h k (by omega)
    simp only [stAt]
    cases ho : ops[m]? with
    | none => exact ih'
    | some o =>
      simp only []
      by_cases hd : i ∈ touched (ss m).E
      · rw [h m (by omega) (by simp [ho]) hd]
        split
        · rw [St.H_app, St.H_app]; exact look_mem _ _ _ _ hd
        · exact ih'
      · have e1 : ∀ (b : Bool) (τ : St), (if b = true then τ.app o (ss m) else τ).H i = τ.H i := fun b τ => by
          split
          · rw [St.H_app]; exact look_other _ _ _ hd
          · rfl
        rw [e1, e1]; exact ih'
theorem stAt_val {S : Nat → Bool} {t k : Nat} {o : Oper} (ho : ops[k]? = some o) (hd : o.dst = some t) (hS : S k = true) : ∀ (m : Nat), k < m → (∀ j, k < j → j < m → ∀ o', ops[j]? = some o' → o'.dst = some t → S j = false) → (stAt ops ss σ S m).get t = (ss k).val := by
  intro m
  induction m with
  | zero => intro h; omega
  | succ m ih =>
    intro hk h
    simp only [stAt]
    rcases Nat.lt_or_ge k m with hlt | hge
    · have ih' := ih hlt fun j h1 h2 => h j h1 (by omega)
      cases ho' : ops[m]? with
      | none => exact ih'
      | some o' =>
        simp only []
        by_cases hd' : o'.dst = some t
        · rw [h m hlt (by omega) o' ho' hd']; exact ih'
        · split
          · rw [St.get_app_other _ _ _ _ hd']; exact ih'
          · exact ih'
    · obtain rfl : k = m := by omega
      simp only [ho, hS, if_true]
      exact St.get_app_same _ _ _ _ hd
theorem stAt_blk {S : Nat → Bool} {i k : Nat} (ho : (ops[k]?).isSome = true) (hd : i ∈ touched (ss k).E) (hS : S k = true) (H : Hp) : ∀ (m : Nat), k < m → (∀ j, k < j → j < m → (ops[j]?).isSome = true → i ∈ touched (ss j).E → S j = false) → (stAt ops ss σ S m).H i = look (ss k).E.upd H i := by
  intro m
  induction m with
  | zero => intro h; omega
  | succ m ih =>
    intro hk h
    simp only [stAt]
    rcases Nat.lt_or_ge k m with hlt | hge
    · have ih' := ih hlt fun j h1 h2 => h j h1 (by omega)
      cases ho' : ops[m]? with
      | none => exact ih'
      | some o' =>
        simp only []
        by_cases hd' : i ∈ touched (ss m).E
        · rw [h m hlt (by omega) (by simp [ho']) hd']; exact ih'
        · split
          · rw [St.H_app, look_other _ _ _ hd']; exact ih'
          · exact ih'
    · obtain rfl : k = m := by omega
      obtain ⟨o, ho⟩ := Option.isSome_iff_exists.1 ho
      simp only [ho, hS, if_true]
      rw [St.H_app]; exact look_mem _ _ _ _ hd
end

theorem run_steps {P : Program} {ops : Array Oper} {nt : Nat} {Q : St → List Foot → Prop} (σ0 : St) :
    ∀ (rest : List Oper) (k : Nat) (ss : Nat → Step) (feet : List Foot), k ≤ ops.toList.length → ops.toList.drop k = rest → feet.length = k → (∀ j, j < k → feet[j]? = some (footOf (ss j))) →
      (∀ j, j < k → ∀ o, ops.toList[j]? = some o → SOK P ops nt (stAt ops.toList ss σ0 (fun _ => true) j) o (ss j)) →
      GRun P ops nt Q rest (stAt ops.toList ss σ0 (fun _ => true) k) feet →
      ∃ (ss : Nat → Step) (feet : List Foot), feet.length = ops.toList.length ∧ (∀ j, j < ops.toList.length → feet[j]? = some (footOf (ss j))) ∧
        (∀ j, j < ops.toList.length → ∀ o, ops.toList[j]? = some o → SOK P ops nt (stAt ops.toList ss σ0 (fun _ => true) j) o (ss j)) ∧ Q (stAt ops.toList ss σ0 (fun _ => true) ops.toList.length) feet := by
  intro rest
  induction rest with
  | nil =>
    intro k ss feet hkn hk hl hf hs h
    cases h with
    | nil _ _ h =>
      have hge : ops.toList.length ≤ k := List.drop_eq_nil_iff.1 hk
      obtain rfl : k = ops.toList.length := by omega
      exact ⟨ss, feet, hl, hf, hs, h⟩
  | cons o rest ih =>
    intro k ss feet hkn hk hl hf hs h
    cases h with
    | cons _ _ _ _ s hs1 h =>
      have hlt : k < ops.toList.length := by
        rcases Nat.lt_or_ge k ops.toList.length with h | h
        · exact h
        · rw [List.drop_eq_nil_of_le h] at hk; cases hk
      have hok : ops.toList[k]? = some o := by
        have := congrArg (·[0]?) hk
        simpa using this
      have hrest : ops.toList.drop (k + 1) = rest := by
        have := congrArg List.tail hk
        simpa [List.tail_drop] using this
      let ss' : Nat → Step := fun j => if j = k then s else ss j
      have hsame : ∀ m, m ≤ k → stAt ops.toList ss' σ0 (fun _ => true) m = stAt ops.toList ss σ0 (fun _ => true) m := by
        intro m
        induction m with
        | zero => intro _; rfl
        | succ m ihm =>
          intro hm
          have := ihm (by omega)
          simp only [stAt, this]
          have e : ss' m = ss m := by simp only [ss']; rw [if_neg (by omega)]
          rw [e]
      have hk' : ss' k = s := by simp [ss']
      refine ih (k + 1) ss' (feet ++ [footOf s]) (by omega) hrest (by simp [hl]) (fun j hj => ?_) (fun j hj o' ho' => ?_) ?_
      · by_cases e : j = k
        · subst e; rw [hk', List.getElem?_append_right (by omega), hl]; simp
        · rw [List.getElem?_append_left (by omega), hf j (by omega)]
          have : ss' j = ss j := by simp only [ss']; rw [if_neg e]
          rw [this]
      · rw [hsame j (by omega)]
        by_cases e : j = k
        · subst e; rw [hk']
          rw [hok] at ho'; injection ho' with ho'; subst ho'; exact hs1
        · have : ss' j = ss j := by simp only [ss']; rw [if_neg e]
          rw [this]; exact hs j (by omega) o' ho'
      · simp only [stAt, hok, if_true, hsame k (Nat.le_refl _), hk']
        exact h

theorem stAt_below {ops : List Oper} {ss : Nat → Step} {σ : St} (i : Nat) : ∀ m, stAt ops ss σ (fun k => decide (k < i)) m = stAt ops ss σ (fun _ => true) (min m i) := by
  intro m
  induction m with
  | zero => simp [stAt]
  | succ m ih =>
    rcases Nat.lt_or_ge m i with h | h
    · rw [show min (m + 1) i = min m i + 1 by omega]
      have hm : min m i = m := by omega
      rw [hm] at ih ⊢
      simp only [stAt, ih, decide_eq_true h]
    · rw [show min (m + 1) i = min m i by omega, ← ih]
      simp only [stAt]
      have : decide (m < i) = false := by simp; omega
      simp only [this]
      cases ops[m]? <;> rfl
theorem stAt_none {ops : List Oper} {ss : Nat → Step} {σ : St} : ∀ m, stAt ops ss σ (fun _ => false) m = σ := by
  intro m
  induction m with
  | zero => rfl
  | succ m ih => simp only [stAt, ih]; cases ops[m]? <;> rfl

section any
variable {P : Program} {ops : Array Oper} {nt p : Nat} {ss : Nat → Step} {feet : List Foot} {σ0 : St}

structure Ran (P : Program) (ops : Array Oper) (nt : Nat) (ss : Nat → Step) (feet : List Foot) (σ0 : St) : Prop where
  len : feet.length = ops.toList.length
  foot : ∀ j, j < ops.toList.length → feet[j]? = some (footOf (ss j))
  sok : ∀ j, j < ops.toList.length → ∀ o, ops.toList[j]? = some o → SOK P ops nt (stAt ops.toList ss σ0 (fun _ => true) j) o (ss j)

theorem Ran.next_mono (h : Ran P ops nt ss feet σ0) {m : Nat} : ∀ d, (stAt ops.toList ss σ0 (fun _ => true) m).next ≤ (stAt ops.toList ss σ0 (fun _ => true) (m + d)).next := by
  intro d
  induction d with
  | zero => exact Nat.le_refl _
  | succ d ih =>
    refine Nat.le_trans ih ?_
    rw [show m + (d + 1) = (m + d) + 1 by omega]
    simp only [stAt]
    cases ops.toList[m + d]? with
    | none => exact Nat.le_refl _
    | some o => exact Nat.le_add_right _ _
theorem Ran.next_le (h : Ran P ops nt ss feet σ0) {a b : Nat} (hab : a ≤ b) : (stAt ops.toList ss σ0 (fun _ => true) a).next ≤ (stAt ops.toList ss σ0 (fun _ => true) b).next := by
  have := h.next_mono (m := a) (b - a)
  rwa [show a + (b - a) = b by omega] at this
theorem Ran.next_succ (h : Ran P ops nt ss feet σ0) {a : Nat} (ha : a < ops.toList.length) : (stAt ops.toList ss σ0 (fun _ => true) (a + 1)).next = (stAt ops.toList ss σ0 (fun _ => true) a).next + (ss a).E.new.length := by
  simp only [stAt, List.getElem?_eq_getElem ha, if_true]
  rfl
theorem Ran.new_at (h : Ran P ops nt ss feet σ0) {j i : Nat} (hj : j < ops.toList.length) (hi : i ∈ (ss j).E.new) : σ0.next ≤ i ∧ (stAt ops.toList ss σ0 (fun _ => true) j).next ≤ i ∧ i < (stAt ops.toList ss σ0 (fun _ => true) (j + 1)).next := by
  have h1 := (h.sok j hj _ (List.getElem?_eq_getElem hj)).new i hi
  have h2 := h.next_le (Nat.zero_le j)
  have h3 := h.next_succ hj
  simp only [stAt] at h2
  omega
theorem Ran.touch_at (h : Ran P ops nt ss feet σ0) {j i : Nat} (hj : j < ops.toList.length) (hi : i ∈ touched (ss j).E) : i < (stAt ops.toList ss σ0 (fun _ => true) (j + 1)).next := by
  have h1 := (h.sok j hj _ (List.getElem?_eq_getElem hj)).touch hi
  have h3 := h.next_succ hj
  omega
theorem Ran.fresh (h : Ran P ops nt ss feet σ0) (h0 : ∀ i, σ0.next ≤ i → σ0.H i = none) : ∀ m, m ≤ ops.toList.length → ∀ i, (stAt ops.toList ss σ0 (fun _ => true) m).next ≤ i → (stAt ops.toList ss σ0 (fun _ => true) m).H i = none := by
  intro m
  induction m with
  | zero => intro _; exact h0
  | succ m ih =>
    intro hm i hi
    have h3 := h.next_succ (a := m) (by omega)
    have ht : i ∉ touched (ss m).E := fun ht => by have := h.touch_at (by omega) ht; omega
    have e : stAt ops.toList ss σ0 (fun _ => true) (m + 1) = (stAt ops.toList ss σ0 (fun _ => true) m).app (ops.toList[m]'(by omega)) (ss m) := by
      simp only [stAt, List.getElem?_eq_getElem (show m < ops.toList.length by omega), if_true]
    rw [e, St.H_app, look_other _ _ _ ht]
    exact ih (by omega) i (by omega)

/-- what is known of two operations -/
theorem Ran.two (h : Ran P ops nt ss feet σ0) (ho : orderOk ops feet = true) {i j : Nat} (hi : i < ops.toList.length) (hj : j < ops.toList.length) (hne : j ≠ i) {oi oj : Oper} (ei : ops[i]? = some oi) (ej : ops[j]? = some oj) :
    (if j < i then bef ops j i = true else bef ops i j = true) ∨ ((∀ d, oj.dst = some d → d ∉ oi.looksAt ops ∧ oi.dst ≠ some d) ∧ (∀ x, x ∈ touched (ss j).E → x ∉ (ss i).E.fp ∧ x ∉ touched (ss i).E)) := by
  simp only [orderOk, List.all_eq_true, List.mem_range] at ho
  have hl : ops.toList.length = ops.size := by simp
  rcases Nat.lt_or_ge j i with hlt | hge
  · have := ho i (by omega) j hlt
    rw [if_pos hlt]
    simp only [pairOk, ei, ej, h.foot i hi, h.foot j hj, Bool.or_eq_true, Bool.and_eq_true, footFree] at this
    rcases this with h1 | ⟨h1, ⟨h2, h3⟩, h4⟩
    · exact .inl h1
    · obtain ⟨a1, a2, a3⟩ := Oper.apart_spec h1
      exact .inr ⟨fun d hd => ⟨a1 d hd, a2 d hd⟩, fun x hx => ⟨disj_spec h2 hx, disj_spec h3 hx⟩⟩
  · have := ho j (by omega) i (by omega)
    rw [if_neg (by omega)]
    simp only [pairOk, ei, ej, h.foot i hi, h.foot j hj, Bool.or_eq_true, Bool.and_eq_true, footFree] at this
    rcases this with h1 | ⟨h1, ⟨h2, h3⟩, h4⟩
    · exact .inl h1
    · obtain ⟨a1, a2, a3⟩ := Oper.apart_spec h1
      exact .inr ⟨fun d hd => ⟨a3 d hd, fun e => a2 d e hd⟩, fun x hx => ⟨disj_spec h4 hx, fun hm => disj_spec h3 hm hx⟩⟩
end any

def ClosedL (ops : Array Oper) (listed : Array Bool) : Prop :=
  ∀ j o, ops[j]? = some o → listed.getD j false = true → ∀ e, e ∈ o.after.toList → Region.binds .any e = true → listed.getD e.on false = true
theorem closed_bef {ops : Array Oper} {listed : Array Bool} (hc : ClosedL ops listed) : ∀ (j i : Nat), bef ops i j = true → (∀ o, ops[j]? = some o → ∀ e, e ∈ o.after.toList → Region.binds .any e = true → listed.getD e.on false = true) → listed.getD i false = true := by
  intro j
  induction j using Nat.strongRecOn with
  | _ j ih =>
    intro i hb hj
    obtain ⟨o, ho, e, he, hbe, hx⟩ := bef_spec hb
    have h1 := hj o ho e he hbe
    rcases hx with hx | ⟨hlt, hx⟩
    · rw [← hx]; exact h1
    · refine ih e.on hlt i hx fun o' ho' => hc e.on o' ho' h1

section main
variable {P : Program} {ops : Array Oper} {nt p : Nat} {ss : Nat → Step} {feet : List Foot} {σ0 : St} {Q : Exit → St → Prop}

def setOf (listed : Array Bool) : Nat → Bool := fun k => listed.getD k false

theorem getD_set {listed : Array Bool} {i k : Nat} {b : Bool} (hi : i < listed.size) : (listed.setIfInBounds i true).getD k b = if k = i then true else listed.getD k b := by
  by_cases h : k = i
  · subst h; simp [hi]
  · rw [if_neg h]; simp [Array.getD_eq_getD_getElem?, Array.getElem?_setIfInBounds_ne (Ne.symm h)]
theorem getD_ff {listed : Array Bool} {k : Nat} (h : k < listed.size) : listed.getD k true = listed.getD k false := by simp [Array.getD, h]
theorem count_pos {n : Nat} {f : Nat → Bool} (h : 0 < (List.range n).countP f) : ∃ i, i < n ∧ f i = true ∧ ∀ j, j < i → f j = false := by
  induction n with
  | zero => simp at h
  | succ n ih =>
    rw [List.range_succ, List.countP_append] at h
    by_cases h' : 0 < (List.range n).countP f
    · obtain ⟨i, h1, h2, h3⟩ := ih h'
      exact ⟨i, by omega, h2, h3⟩
    · have hz : (List.range n).countP f = 0 := by omega
      rw [List.countP_eq_zero] at hz
      refine ⟨n, by omega, ?_, fun j hj => ?_⟩
      · cases hf : f n with
        | true => rfl
        | false =>
          have e : (if f n = true then 1 else 0) = 0 := by rw [hf]; rfl
          rw [List.countP_singleton, e, Nat.add_zero] at h
          exact absurd h h'
      · cases hf : f j with
        | true => exact absurd hf (hz j (by simpa using hj))
        | false => rfl
theorem count_drop {n i : Nat} {f g : Nat → Bool} (hi : i < n) (hf : f i = true) (hg : ∀ k, g k = if k = i then false else f k) : (List.range n).countP f = (List.range n).countP g + 1 := by
  induction n with
  | zero => omega
  | succ n ih =>
    rw [List.range_succ, List.countP_append, List.countP_append, List.countP_singleton, List.countP_singleton]
    by_cases h : i = n
    · subst h
      have e : (List.range i).countP f = (List.range i).countP g := List.countP_congr fun x hx => by
        have : x < i := by simpa using hx
        rw [hg x, if_neg (by omega)]
      rw [e, hf, hg i, if_pos rfl]; simp
    · have e : g n = f n := by rw [hg n, if_neg (by omega)]
      rw [ih (by omega), e]; omega

theorem run_any (hg : guardsOk ops nt = true) (hran : Ran P ops nt ss feet σ0) (hord : orderOk ops feet = true) (hedge : edgesOk ops = true)
    (hq : Q .normal (stAt ops.toList ss σ0 (fun _ => true) ops.toList.length)) {ν0 : Nu} {F0 : Fz} {w0 : World} (pin0 : p ≤ σ0.next) (fresh0 : ∀ i, σ0.next ≤ i → σ0.H i = none) :
    ∀ (fuel : Nat) (listed : Array Bool) (a : Act) (w : World) (ν : Nu) (F : Fz), listed.size = ops.size → ClosedL ops listed → (List.range ops.size).countP (fun k => !listed.getD k false) = fuel →
      (∀ t, VR ν F w ((stAt ops.toList ss σ0 (setOf listed) ops.toList.length).get t) (a.tmps.getD t undef)) → Rel ν F w (stAt ops.toList ss σ0 (setOf listed) ops.toList.length).H →
      a.defers = [] → a.tmps.size = nt → (∀ i, (stAt ops.toList ss σ0 (fun _ => true) ops.toList.length).next ≤ i → ν i = none) →
      (∀ k, k < ops.size → listed.getD k false = false → ∀ i, i ∈ (ss k).E.new → ν i = none) →
      Evo ν0 F0 w0 σ0.H ν F w (stAt ops.toList ss σ0 (setOf listed) ops.toList.length).H → (∀ i, i < p → ν i = ν0 i) →
      wpAny P .any ops (GPost nt p ν0 F0 w0 σ0.H Q) fuel listed a w := by
  have hlen : ops.toList.length = ops.size := by simp
  intro fuel
  induction fuel with
  | zero =>
    intro listed a w ν F hsz hcl hcount vals rel defers size free newfree evo pin
    rw [List.countP_eq_zero] at hcount
    have hall : ∀ k, k < ops.toList.length → setOf listed k = true := fun k hk => by
      have := hcount k (by simp; omega)
      simpa [setOf] using this
    refine ⟨?_, ?_⟩
    · cases hr : Region.ready .any ops listed with
      | nil => rfl
      | cons i l =>
        have hm : i ∈ Region.ready .any ops listed := by rw [hr]; simp
        obtain ⟨hl, o, ho, _⟩ := mem_ready.1 hm
        have hi : i < ops.size := (Array.getElem?_eq_some_iff.1 ho).1
        have := hall i (by omega)
        rw [getD_ff (by omega)] at hl
        simp only [setOf] at this
        rw [this] at hl; cases hl
    · have eg : ∀ t, (stAt ops.toList ss σ0 (setOf listed) ops.toList.length).get t = (stAt ops.toList ss σ0 (fun _ => true) ops.toList.length).get t := fun t => stAt_get _ fun k hk _ _ _ => hall k hk
      have eH : (stAt ops.toList ss σ0 (setOf listed) ops.toList.length).H = (stAt ops.toList ss σ0 (fun _ => true) ops.toList.length).H := funext fun i => stAt_H _ fun k hk _ _ => hall k hk
      rw [eH] at rel evo
      refine ⟨_, ν, F, hq, ⟨?_, fun t => by rw [← eg]; exact vals t, rel, defers, free, size, hran.fresh fresh0 _ (Nat.le_refl _)⟩, evo, pin⟩
      exact Nat.le_trans pin0 (hran.next_le (Nat.zero_le _))
  | succ fuel ih =>
    intro listed a w ν F hsz hcl hcount vals rel defers size free newfree evo pin
    refine ⟨fun hr => ?_, fun i hi => ?_⟩
    · exfalso
      obtain ⟨i, h1, h2, h3⟩ := count_pos (n := ops.size) (f := fun k => !listed.getD k false) (by omega)
      have hm : i ∈ Region.ready .any ops listed := by
        rw [mem_ready]
        refine ⟨?_, ops[i], by simp [h1], fun e he hb => ?_⟩
        · rw [getD_ff (by omega)]; simpa using h2
        · simp only [edgesOk, List.all_eq_true, List.mem_range] at hedge
          have := hedge i h1
          simp only [Array.getElem?_eq_getElem h1] at this
          have := (Array.all_eq_true_iff_forall_mem.1 this) e he
          rw [hb] at this
          simp at this
          have := h3 e.on this
          simpa using this
      rw [hr] at hm; cases hm
    · obtain ⟨hun, o, ho, hall⟩ := mem_ready.1 hi
      have hin : i < ops.size := (Array.getElem?_eq_some_iff.1 ho).1
      have hil : i < ops.toList.length := by omega
      have hol : ops.toList[i]? = some o := by simpa using ho
      rw [getD_ff (by omega)] at hun
      have hs := hran.sok i hil o hol
      have hall' : ∀ o', ops[i]? = some o' → ∀ e, e ∈ o'.after.toList → Region.binds .any e = true → listed.getD e.on false = true := fun o' ho' e he hb => by
        rw [ho] at ho'; injection ho' with ho'; subst ho'; exact hall e (by simpa using he) hb
      -- what is ordered with i has come up just if it stands ahead of i
      have hord2 : ∀ j oj, j ≠ i → ops[j]? = some oj → setOf listed j = decide (j < i) ∨ ((∀ d, oj.dst = some d → d ∉ o.looksAt ops ∧ o.dst ≠ some d) ∧ (∀ x, x ∈ touched (ss j).E → x ∉ (ss i).E.fp ∧ x ∉ touched (ss i).E)) := fun j oj hne hj => by
        have hjn : j < ops.size := (Array.getElem?_eq_some_iff.1 hj).1
        rcases hran.two hord hil (by omega) hne ho hj with h1 | h1
        · left
          by_cases hlt : j < i
          · rw [if_pos hlt] at h1
            simp only [setOf, decide_eq_true hlt]
            exact closed_bef hcl i j h1 hall'
          · rw [if_neg hlt] at h1
            simp only [setOf, decide_eq_false hlt]
            cases hb : listed.getD j false with
            | false => rfl
            | true =>
              have := closed_bef hcl j i h1 (fun o' ho' => hcl j o' ho' hb)
              rw [hun] at this; cases this
        · exact .inr h1
      have hbelow : stAt ops.toList ss σ0 (fun _ => true) i = stAt ops.toList ss σ0 (fun k => decide (k < i)) ops.toList.length := by
        rw [stAt_below, show min ops.toList.length i = i by omega]
      unfold wpOp
      simp only [ho]
      refine step_sound hs (τ := stAt ops.toList ss σ0 (setOf listed) ops.toList.length) (fun t ht => ?_) (fun x hx => ?_) (fun x hx => ?_) vals rel defers (fun x hx => newfree i hin hun x hx) size (fun j want d _ hd => guardsOk_spec hg hd) ?_
      · rw [hbelow]
        refine stAt_get _ fun k hk ok hok hd => ?_
        by_cases hki : k = i
        · subst hki; simp [setOf, hun]
        · rcases hord2 k ok hki (by simpa using hok) with h1 | h1
          · exact h1
          · exact absurd ht (h1.1 t hd).1
      · rw [hbelow]
        refine stAt_H _ fun k hk hok hd => ?_
        by_cases hki : k = i
        · subst hki; simp [setOf, hun]
        · obtain ⟨ok, hok⟩ := Option.isSome_iff_exists.1 hok
          rcases hord2 k ok hki (by simpa using hok) with h1 | h1
          · exact h1
          · exact absurd hx (h1.2 x hd).1
      · rw [stAt_H (S' := fun _ => false) _ (fun k hk hok hd => ?_), stAt_none]
        · exact fresh0 x (hran.new_at hil hx).1
        · by_cases hki : k = i
          · subst hki; simp [setOf, hun]
          · obtain ⟨ok, hok⟩ := Option.isSome_iff_exists.1 hok
            have ht := hran.touch_at (by omega) hd
            have hn := (hran.new_at hil hx).2.1
            rcases Nat.lt_or_ge k i with hlt | hge
            · have := hran.next_le (show k + 1 ≤ i by omega); omega
            · rcases hord2 k ok hki (by simpa using hok) with h1 | h1
              · rw [h1]; simp; omega
              · exact absurd (hs.newt x hx) (h1.2 x hd).2
      · intro a' w' ν' F' v1 v2 hrel hdef hnew hsize' hev
        have hS' : ∀ k, setOf (listed.setIfInBounds i true) k = if k = i then true else setOf listed k := fun k => getD_set (by omega)
        have eH : (stAt ops.toList ss σ0 (setOf (listed.setIfInBounds i true)) ops.toList.length).H = look (ss i).E.upd (stAt ops.toList ss σ0 (setOf listed) ops.toList.length).H := by
          funext x
          by_cases hx : x ∈ touched (ss i).E
          · refine stAt_blk (k := i) (by simp [hol]) hx (by rw [hS', if_pos rfl]) _ _ hil fun j h1 h2 hoj hd => ?_
            obtain ⟨oj, hoj⟩ := Option.isSome_iff_exists.1 hoj
            rw [hS', if_neg (by omega)]
            rcases hord2 j oj (by omega) (by simpa using hoj) with h | h
            · rw [h]; simp; omega
            · exact absurd hx (h.2 x hd).2
          · rw [look_other _ _ _ hx]
            refine stAt_H _ fun k hk hok hd => ?_
            rw [hS']
            by_cases hki : k = i
            · subst hki; exact absurd hd hx
            · rw [if_neg hki]
        refine ih (listed.setIfInBounds i true) a' w' ν' F' (by simp [hsz]) ?_ ?_ ?_ (by rw [eH]; exact hrel) hdef hsize' ?_ ?_ (by rw [eH]; exact evo.trans hev) ?_
        · intro j oj hoj hj e he hb
          rw [getD_set (by omega)] at hj ⊢
          by_cases hji : j = i
          · subst hji
            split
            · rfl
            · exact hall' oj hoj e he hb
          · rw [if_neg hji] at hj
            split
            · rfl
            · exact hcl j oj hoj hj e he hb
        · have := count_drop (n := ops.size) (i := i) (f := fun k => !listed.getD k false) (g := fun k => !(listed.setIfInBounds i true).getD k false) hin (by simp [hun]) (fun k => by
            rw [getD_set (by omega)]
            split <;> simp)
          omega
        · intro t
          by_cases ht : o.dst = some t
          · rw [stAt_val hol ht (by rw [hS', if_pos rfl]) _ hil fun j h1 h2 oj hoj hd => ?_]
            · exact v2 t ht
            · rw [hS', if_neg (by omega)]
              rcases hord2 j oj (by omega) (by simpa using hoj) with h | h
              · rw [h]; simp; omega
              · exact absurd ht (h.1 t hd).2
          · rw [stAt_get (S' := setOf listed) _ fun k hk ok hok hd => ?_]
            · exact v1 t ht
            · rw [hS']
              by_cases hki : k = i
              · subst hki; rw [hol] at hok; injection hok with hok; subst hok; exact absurd hd ht
              · rw [if_neg hki]
        · intro x hx
          have : ν' x = ν x := Classical.byContradiction fun hne => by
            have h1 := (hran.new_at hil (hnew x hne)).2.2
            have h2 := hran.next_le (show i + 1 ≤ ops.toList.length by omega)
            omega
          rw [this]; exact free x hx
        · intro k hk hlk x hx
          rw [getD_set (by omega)] at hlk
          by_cases hki : k = i
          · rw [if_pos hki] at hlk; cases hlk
          · rw [if_neg hki] at hlk
            have : ν' x = ν x := Classical.byContradiction fun hne => by
              have h1 := hran.new_at hil (hnew x hne)
              have h2 := hran.new_at (show k < ops.toList.length by omega) hx
              rcases Nat.lt_or_ge k i with h | h
              · have := hran.next_le (show k + 1 ≤ i by omega); omega
              · have := hran.next_le (show i + 1 ≤ k by omega); omega
            rw [this]; exact newfree k hk hlk x hx
        · intro x hx
          have : ν' x = ν x := Classical.byContradiction fun hne => by
            have h1 := hran.new_at hil (hnew x hne)
            omega
          rw [this]; exact pin x hx

theorem gw_region_any {id : Nat} {σ : St} (hm : P.follows .mixedOrders = true) (hg : guardsOk ops nt = true) (hedge : edgesOk ops = true)
    (h : GRun P ops nt (fun σ' feet => orderOk ops feet = true ∧ Q .normal σ') ops.toList σ []) : GW P nt p (.region id ops true) σ Q := by
  intro ν F a w hr
  obtain ⟨ss, feet, hl, hf, hs, hord, hq⟩ := run_steps σ ops.toList 0 (fun _ => ⟨true, fun _ => .junk, { g := .junk }, .junk⟩) [] (Nat.zero_le _) rfl rfl (fun j h => by omega) (fun j h => by omega) h
  refine wp_region_any hm ?_
  have e0 : ∀ m, stAt ops.toList ss σ (setOf (Array.replicate ops.size false)) m = σ := fun m => by
    have : setOf (Array.replicate ops.size false) = fun _ => false := by
      funext k
      simp only [setOf, Array.getD_eq_getD_getElem?, Array.getElem?_replicate]
      split <;> rfl
    rw [this]; exact stAt_none m
  refine run_any hg ⟨hl, hf, hs⟩ hord hedge hq hr.pin hr.fresh ops.size (Array.replicate ops.size false) a w.drew ν F (by simp) ?_ ?_ ?_ ?_ hr.defers hr.size ?_ ?_ ?_ (fun _ _ => rfl)
  · intro j o _ hj
    simp [Array.getD_eq_getD_getElem?, Array.getElem?_replicate] at hj
    split at hj <;> simp at hj
  · rw [List.countP_eq_length.2]
    · simp
    · intro k hk
      simp [Array.getD_eq_getD_getElem?, Array.getElem?_replicate]
      split <;> simp
  · intro t; rw [e0]; exact (hr.vals t).keep (Keep.drew F w) (More.refl _)
  · rw [e0]; exact hr.rel.drew
  · intro i hi
    refine hr.free i (Nat.le_trans ?_ hi)
    exact Ran.next_le (P := P) (nt := nt) (feet := feet) ⟨hl, hf, hs⟩ (Nat.zero_le _)
  · intro k hk _ i hi
    exact hr.free i (Ran.new_at (P := P) (nt := nt) (feet := feet) ⟨hl, hf, hs⟩ (by simpa using hk) hi).1
  · rw [e0]; exact Evo.drew (Evo.refl _ _ _ _)
end main
end Go.Gh

namespace Go.Gh
open Go Go.RowKit
set_option linter.unusedVariables false

mutual
def G.ren (ρ : Nat → Nat) : G → G
  | .d x => .d x
  | .ptr b es i f => .ptr (ρ b) es i f
  | .sl b es i n => .sl (ρ b) es i n
  | .ep cs => .ep cs
  | .fn f a b => .fn f (G.renL ρ a) (G.renL ρ b)
  | .agg cs => .agg (G.renL ρ cs)
  | .tup vs => .tup (G.renL ρ vs)
  | .iface t g => .iface t (G.ren ρ g)
  | .mp b => .mp (ρ b)
  | .opt c g => .opt c (G.ren ρ g)
  | .junk => .junk
def G.renL (ρ : Nat → Nat) : List G → List G
  | [] => []
  | g :: l => G.ren ρ g :: G.renL ρ l
end
mutual
def G.lt (n : Nat) : G → Bool
  | .d _ => true
  | .ptr b _ _ _ => Nat.ble (b + 1) n
  | .sl b _ _ _ => Nat.ble (b + 1) n
  | .ep _ => true
  | .fn _ a b => G.ltL n a && G.ltL n b
  | .agg cs => G.ltL n cs
  | .tup vs => G.ltL n vs
  | .iface _ g => G.lt n g
  | .mp b => Nat.ble (b + 1) n
  | .opt _ g => G.lt n g
  | .junk => true
def G.ltL (n : Nat) : List G → Bool
  | [] => true
  | g :: l => G.lt n g && G.ltL n l
end

theorem renL_map (ρ : Nat → Nat) : ∀ l, G.renL ρ l = l.map (G.ren ρ) := by
  intro l
  induction l with
  | nil => rfl
  | cons g l ih => simp only [G.renL, ih, List.map_cons]
theorem ltL_all (n : Nat) : ∀ l, G.ltL n l = l.all (G.lt n) := by
  intro l
  induction l with
  | nil => rfl
  | cons g l ih => simp only [G.ltL, ih, List.all_cons]
def cutNu (n : Nat) (ρ : Nat → Nat) (ν : Nu) : Nu := fun i => if i < n then ν (ρ i) else none

theorem VR.ren {ν : Nu} {F : Fz} {w : World} {ρ : Nat → Nat} {n : Nat} {g0 : G} {v : Value} (h : VR ν F w g0 v) : ∀ g, g0 = g.ren ρ → g.lt n = true → VR (cutNu n ρ ν) F w g v := by
  have key : ∀ b, Nat.ble (b + 1) n = true → cutNu n ρ ν b = ν (ρ b) := fun b hb => if_pos (Nat.le_of_ble_eq_true hb)
  induction h with
  | d h => intro g e _; cases g <;> simp only [G.ren] at e <;> first | cases e | skip
           exact .d h
  | ptr b es i f r k h =>
    intro g e hl; cases g <;> simp only [G.ren] at e <;> first | cases e | skip
    rename_i b'
    exact .ptr _ _ _ _ _ k (by rw [key _ hl]; exact h)
  | mp b r k h =>
    intro g e hl; cases g <;> simp only [G.ren] at e <;> first | cases e | skip
    rename_i b'
    exact .mp _ _ k (by rw [key _ hl]; exact h)
  | sl b es i n' A c h1 h2 h3 =>
    intro g e hl; cases g <;> simp only [G.ren] at e <;> first | cases e | skip
    refine .sl _ _ _ _ _ _ ?_ ?_ h3 <;> rw [key _ hl] <;> assumption
  | ep cells b off val hw hF h => intro g e _; cases g <;> simp only [G.ren] at e <;> first | cases e | skip
                                  exact .ep _ _ _ _ hw hF h
  | fn f first captured fs cs h1 h2 _ _ i1 i2 =>
    intro g e hl; cases g <;> simp only [G.ren] at e <;> first | cases e | skip
    rename_i a b _
    simp only [renL_map] at h1 h2 i1 i2
    simp only [G.lt, ltL_all, Bool.and_eq_true, List.all_eq_true] at hl
    refine .fn _ _ _ _ _ (by rw [h1]; simp) (by rw [h2]; simp) (fun j g u hg hu => ?_) (fun j g u hg hu => ?_)
    · exact i1 j (g.ren ρ) u (by rw [List.getElem?_map, hg]; rfl) hu g rfl (hl.1 g (List.mem_of_getElem? hg))
    · exact i2 j (g.ren ρ) u (by rw [List.getElem?_map, hg]; rfl) hu g rfl (hl.2 g (List.mem_of_getElem? hg))
  | agg cells cs h1 hc _ ih =>
    intro g e hl; cases g <;> simp only [G.ren] at e <;> first | cases e | skip
    simp only [renL_map] at h1 ih
    simp only [G.lt, ltL_all, List.all_eq_true] at hl
    refine .agg _ _ (by rw [h1]; simp) hc (fun j g u hg hu => ?_)
    exact ih j (g.ren ρ) u (by rw [List.getElem?_map, hg]; rfl) hu g rfl (hl g (List.mem_of_getElem? hg))
  | tup vs us h1 _ ih =>
    intro g e hl; cases g <;> simp only [G.ren] at e <;> first | cases e | skip
    simp only [renL_map] at h1 ih
    simp only [G.lt, ltL_all, List.all_eq_true] at hl
    refine .tup _ _ (by rw [h1]; simp) (fun j g u hg hu => ?_)
    exact ih j (g.ren ρ) u (by rw [List.getElem?_map, hg]; rfl) hu g rfl (hl g (List.mem_of_getElem? hg))
  | iface t g u _ ih =>
    intro g e hl; cases g <;> simp only [G.ren] at e <;> first | cases e | skip
    exact .iface _ _ _ (ih _ rfl hl)
  | opt c g u _ h0 ih =>
    intro g e hl; cases g <;> simp only [G.ren] at e <;> first | cases e | skip
    exact .opt _ _ _ (fun hc => ih hc _ rfl hl) h0
  | junk u => intro g e _; cases g <;> simp only [G.ren] at e <;> first | cases e | skip
              exact .junk _

def Exit.thenS (next : St → Prop) (Q : Exit → St → Prop) : Exit → St → Prop
  | .normal, σ => next σ
  | e, σ => Q e σ
def Exit.blockS (id : Nat) (Q : Exit → St → Prop) : Exit → St → Prop
  | .exit id', σ => if id' = id then Q .normal σ else Q (.exit id') σ
  | e, σ => Q e σ

section rules
variable {P : Program} {nt p : Nat} {σ : St} {Q : Exit → St → Prop}

theorem GPost.from {ν ν1 : Nu} {F F1 : Fz} {w w1 : World} {H : Hp} {σ1 : St} {a1 : Act} {c : Code} {Q' : Exit → Act → World → Prop} (h : GW P nt p c σ1 Q) (hr : RS σ1 ν1 F1 a1 w1 nt p) (he : Evo ν F w H ν1 F1 w1 σ1.H) (hp : ∀ i, i < p → ν1 i = ν i)
    (hq : ∀ e a w', GPost nt p ν F w H Q e a w' → Q' e a w') : c.wp P Q' a1 w1 :=
  wp_mono (h ν1 F1 a1 w1 hr) fun e a2 w2 ⟨σ2, ν2, F2, q, r, e2, p2⟩ => hq _ _ _ ⟨σ2, ν2, F2, q, r, he.trans e2, fun i hi => (p2 i hi).trans (hp i hi)⟩

theorem gw_mono {c : Code} {Q' : Exit → St → Prop} (h : GW P nt p c σ Q) (hq : ∀ e σ, Q e σ → Q' e σ) : GW P nt p c σ Q' :=
  fun ν F a w hr => wp_mono (h ν F a w hr) fun _ _ _ ⟨σ', ν', F', q, r⟩ => ⟨σ', ν', F', hq _ _ q, r⟩
theorem gw_skip (h : Q .normal σ) : GW P nt p .skip σ Q := fun ν F a w hr => wp_skip ⟨σ, ν, F, h, hr, Evo.refl _ _ _ _, fun _ _ => rfl⟩
theorem gw_exit {id : Nat} (h : Q (.exit id) σ) : GW P nt p (.exit id) σ Q := fun ν F a w hr => wp_exit ⟨σ, ν, F, h, hr, Evo.refl _ _ _ _, fun _ _ => rfl⟩
theorem gw_ret (h : Q .ret σ) : GW P nt p .ret σ Q := fun ν F a w hr => wp_ret ⟨σ, ν, F, h, hr, Evo.refl _ _ _ _, fun _ _ => rfl⟩
theorem gw_label {l : Nat} (h : Q .normal σ) : GW P nt p (.label l) σ Q := fun ν F a w hr => wp_label ⟨σ, ν, F, h, hr, Evo.refl _ _ _ _, fun _ _ => rfl⟩
theorem gw_seq {x y : Code} (h : GW P nt p x σ (Exit.thenS (fun σ' => GW P nt p y σ' Q) Q)) : GW P nt p (.seq x y) σ Q := by
  intro ν F a w hr
  refine wp_seq (wp_mono (h ν F a w hr) fun e a1 w1 ⟨σ1, ν1, F1, q, r1, e1, p1⟩ => ?_)
  cases e with
  | normal => exact GPost.from q r1 e1 p1 (fun _ _ _ h => h)
  | exit id => exact ⟨σ1, ν1, F1, q, r1, e1, p1⟩
  | goto l => exact ⟨σ1, ν1, F1, q, r1, e1, p1⟩
  | ret => exact ⟨σ1, ν1, F1, q, r1, e1, p1⟩
  | panic ch => exact ⟨σ1, ν1, F1, q, r1, e1, p1⟩
  | outgrown => exact ⟨σ1, ν1, F1, q, r1, e1, p1⟩
theorem gw_block {id : Nat} {c : Code} (h : GW P nt p c σ (Exit.blockS id Q)) : GW P nt p (.block id c) σ Q := by
  intro ν F a w hr
  refine wp_block (wp_mono (h ν F a w hr) fun e a1 w1 ⟨σ1, ν1, F1, q, r1, e1, p1⟩ => ?_)
  cases e with
  | exit id' =>
    simp only [Exit.inBlock, Exit.blockS] at *
    split
    · rename_i he; rw [if_pos he] at q; exact ⟨σ1, ν1, F1, q, r1, e1, p1⟩
    · rename_i he; rw [if_neg he] at q; exact ⟨σ1, ν1, F1, q, r1, e1, p1⟩
  | normal => exact ⟨σ1, ν1, F1, q, r1, e1, p1⟩
  | goto l => exact ⟨σ1, ν1, F1, q, r1, e1, p1⟩
  | ret => exact ⟨σ1, ν1, F1, q, r1, e1, p1⟩
  | panic ch => exact ⟨σ1, ν1, F1, q, r1, e1, p1⟩
  | outgrown => exact ⟨σ1, ν1, F1, q, r1, e1, p1⟩
theorem VR.bool {ν : Nu} {F : Fz} {w : World} {b : Bool} {v : Value} (h : VR ν F w (.d (.sc (.bool b))) v) : v = .bool b := by
  cases h with
  | d h => cases h with
    | sc v h => rfl
theorem gw_cond {c : Operand} {x y : Code} {b : Bool} (hc : σ.ev c = .d (.sc (.bool b))) (h1 : b = true → GW P nt p x σ Q) (h2 : b = false → GW P nt p y σ Q) : GW P nt p (.cond c x y) σ Q := by
  intro ν F a w hr
  have hv := ev_sound hr.vals c
  rw [hc] at hv
  exact wp_cond_split hv.bool (fun e => h1 e ν F a w hr) (fun e => h2 e ν F a w hr)
theorem least {Good : Nat → Prop} (h : ∃ n, Good n) : ∃ n, Good n ∧ ∀ k, Good k → n ≤ k := by
  obtain ⟨n, hn⟩ := h
  induction n using Nat.strongRecOn with
  | _ n ih =>
    by_cases hk : ∃ k, k < n ∧ Good k
    · obtain ⟨k, hk, hg⟩ := hk; exact ih k hk hg
    · exact ⟨n, hn, fun k hg => by
        rcases Nat.lt_or_ge k n with h1 | h1
        · exact absurd ⟨k, h1, hg⟩ hk
        · exact h1⟩
theorem gw_loop {c : Code} (I : St → Prop) (μ : St → Nat) (h0 : I σ) (h : ∀ σ, I σ → GW P nt p c σ (Exit.thenS (fun σ' => I σ' ∧ μ σ' < μ σ) Q)) : GW P nt p (.loop c) σ Q := by
  classical
  intro ν F a w hr
  let Good (n : Nat) (a' : Act) (w' : World) : Prop := ∃ (σ' : St) (ν' : Nu) (F' : Fz), μ σ' = n ∧ I σ' ∧ RS σ' ν' F' a' w' nt p ∧ Evo ν F w σ.H ν' F' w' σ'.H ∧ ∀ i, i < p → ν' i = ν i
  let m (a' : Act) (w' : World) : Nat := if h : ∃ n, Good n a' w' then Classical.choose (least h) else 0
  have hm : ∀ a' w', (∃ n, Good n a' w') → Good (m a' w') a' w' ∧ ∀ k, Good k a' w' → m a' w' ≤ k := fun a' w' h => by
    have e : m a' w' = Classical.choose (least h) := dif_pos h
    rw [e]
    exact Classical.choose_spec (least h)
  refine wp_loop (fun a' w' => ∃ n, Good n a' w') m ⟨_, σ, ν, F, rfl, h0, hr, Evo.refl _ _ _ _, fun _ _ => rfl⟩ ?_
  intro a1 w1 hg
  obtain ⟨⟨σ1, ν1, F1, hn, hI, hr1, he1, hp1⟩, hmin⟩ := hm a1 w1 hg
  refine GPost.from (h σ1 hI) hr1 he1 hp1 fun e a2 w2 ⟨σ2, ν2, F2, q, r2, e2, p2⟩ => ?_
  cases e with
  | normal =>
    have hg2 : Good (μ σ2) a2 w2 := ⟨σ2, ν2, F2, rfl, q.1, r2, e2, p2⟩
    refine ⟨⟨_, hg2⟩, ?_⟩
    have h1 := (hm a2 w2 ⟨_, hg2⟩).2 _ hg2
    have h2 := q.2
    rw [← hn]
    omega
  | exit id => exact ⟨σ2, ν2, F2, q, r2, e2, p2⟩
  | goto l => exact ⟨σ2, ν2, F2, q, r2, e2, p2⟩
  | ret => exact ⟨σ2, ν2, F2, q, r2, e2, p2⟩
  | panic ch => exact ⟨σ2, ν2, F2, q, r2, e2, p2⟩
  | outgrown => exact ⟨σ2, ν2, F2, q, r2, e2, p2⟩
end rules
end Go.Gh
