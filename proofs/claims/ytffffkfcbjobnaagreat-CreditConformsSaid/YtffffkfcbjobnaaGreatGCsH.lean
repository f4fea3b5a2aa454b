/- Walks by the logic of calls, and plain laws. -/
import Derived.Test.YtffffkfcbjobnaaGreatGCsG
namespace Go.Gh
open Go Go.Proofs
set_option maxRecDepth 1000000
set_option maxHeartbeats 2000000
set_option linter.unusedSimpArgs false
set_option linter.unusedVariables false
set_option linter.unnecessarySimpa false
set_option linter.unusedSectionVars false
variable [PowTab] [ItoaU]
open Go.RowKit

/-- data seen as other data -/
def DEnt (x y : D) : Prop := ∀ (F : Fz) (w : World) (v : Value), DR F w x v → DR F w y v
theorem DEnt.refl (x : D) : DEnt x x := fun _ _ _ h => h
theorem DEnt.nil {α : Type} (df : α) (cs : α → List D) : DEnt (.sc (.slice none 0 0)) (.row df cs []) := fun F w v h => by
  cases h
  exact .row df cs [] none 0 0 0 0 (fun _ _ => undef) (fun h => absurd rfl h) (Nat.zero_le _) (fun e h => by cases h) (fun i e j x h => by simp at h) (fun i e j x h => by simp at h) (fun i e j x h => by simp at h)
def DEntL : List D → List D → Prop
  | [], [] => True
  | x :: l, y :: m => DEnt x y ∧ DEntL l m
  | _, _ => False
def DEntLL : List (List D) → List (List D) → Prop
  | [], [] => True
  | x :: l, y :: m => DEntL x y ∧ DEntLL l m
  | _, _ => False
theorem DEntL.at_ : ∀ {l m : List D}, DEntL l m → l.length = m.length ∧ ∀ (j : Nat) y, m[j]? = some y → ∃ x, l[j]? = some x ∧ DEnt x y := by
  intro l
  induction l with
  | nil => intro m h; cases m with
    | nil => exact ⟨rfl, fun j y h => by simp at h⟩
    | cons => cases h
  | cons x l ih => intro m h; cases m with
    | nil => cases h
    | cons y m =>
      obtain ⟨h1, h2⟩ := ih h.2
      refine ⟨by simp [h1], fun j z hz => ?_⟩
      cases j with
      | zero => simp at hz; subst hz; exact ⟨x, rfl, h.1⟩
      | succ j => exact h2 j z (by simpa using hz)
theorem DEntLL.at_ : ∀ {l m : List (List D)}, DEntLL l m → l.length = m.length ∧ ∀ (j : Nat) y, m[j]? = some y → ∃ x, l[j]? = some x ∧ DEntL x y := by
  intro l
  induction l with
  | nil => intro m h; cases m with
    | nil => exact ⟨rfl, fun j y h => by simp at h⟩
    | cons => cases h
  | cons x l ih => intro m h; cases m with
    | nil => cases h
    | cons y m =>
      obtain ⟨h1, h2⟩ := ih h.2
      refine ⟨by simp [h1], fun j z hz => ?_⟩
      cases j with
      | zero => simp at hz; subst hz; exact ⟨x, rfl, h.1⟩
      | succ j => exact h2 j z (by simpa using hz)
theorem DEnt.row {α β : Type} {df : α} {cs : α → List D} {xs : List α} {df' : β} {cs' : β → List D} {ys : List β} (h : DEntLL (rowL cs xs) (rowL cs' ys)) : DEnt (.row df cs xs) (.row df' cs' ys) := fun F w v hd => by
  obtain ⟨hlen, hat⟩ := h.at_
  simp only [rowL, List.length_map] at hlen
  have hel : ∀ (i : Nat) e', ys[i]? = some e' → ∃ e, xs[i]? = some e ∧ DEntL (cs e) (cs' e') := fun i e' he => by
    obtain ⟨x, h1, h2⟩ := hat i (cs' e') (by simp [rowL, he])
    simp only [rowL, List.getElem?_map, Option.map_eq_some_iff] at h1
    obtain ⟨e, h3, rfl⟩ := h1
    exact ⟨e, h3, h2⟩
  cases hd with
  | row _ _ _ A c b off es val hA hc hl hw hF hd =>
    rw [hlen]
    refine .row df' cs' ys A c b off es val (fun hy => hA fun hx => hy (List.eq_nil_of_length_eq_zero (by rw [← hlen, hx]; rfl))) (by omega) (fun e he => ?_) (fun i e j x a1 a2 => ?_) (fun i e j x a1 a2 => ?_) (fun i e j x a1 a2 => ?_)
    · obtain ⟨i, hi⟩ := List.getElem?_of_mem he
      obtain ⟨e', h1, h2⟩ := hel i e hi
      rw [← h2.at_.1]; exact hl _ (List.mem_of_getElem? h1)
    · obtain ⟨e', h1, h2⟩ := hel i e a1
      obtain ⟨y, h3, h4⟩ := h2.at_.2 j x a2
      exact hw i e' j y h1 h3
    · obtain ⟨e', h1, h2⟩ := hel i e a1
      obtain ⟨y, h3, h4⟩ := h2.at_.2 j x a2
      exact hF i e' j y h1 h3
    · obtain ⟨e', h1, h2⟩ := hel i e a1
      obtain ⟨y, h3, h4⟩ := h2.at_.2 j x a2
      exact h4 F w _ (hd i e' j y h1 h3)
theorem DEnt.ent {x y : D} (h : DEnt x y) : Ent (.d x) (.d y) := fun ν F w v hv => by
  cases hv with | d hd => exact .d (h F w v hd)

abbrev sInv : ByteArray := ⟨#[105, 110, 118, 111, 105, 99, 101]⟩
abbrev sNo : ByteArray := ⟨#[110, 111]⟩
abbrev s7 : ByteArray := ⟨#[55]⟩
abbrev s8 : ByteArray := ⟨#[56]⟩
abbrev s9 : ByteArray := ⟨#[57]⟩
abbrev sX : ByteArray := ⟨#[120]⟩
abbrev sFr : ByteArray := ⟨#[102, 114, 97, 110, 99]⟩
abbrev sLy : ByteArray := ⟨#[76, 121, 111, 110]⟩
abbrev sGe : ByteArray := ⟨#[103, 101, 110, 101, 118, 97]⟩
abbrev sA : ByteArray := ⟨#[65]⟩
abbrev sB : ByteArray := ⟨#[66]⟩
abbrev sC : ByteArray := ⟨#[67]⟩

def exIs (s : ByteArray) : List Dm := [⟨1, sInv, sNo, ⟨#[]⟩, ⟨#[]⟩, s, 0, 0⟩]
def exRd (s : ByteArray) : List Dc := [⟨sInv, [⟨sNo, [[s]]⟩]⟩]
def exR : Rlm := ⟨[sFr], [⟨sLy, 0, 0, [], [], []⟩], [0], [⟨sA, 0, 0⟩, ⟨sB, 0, 0⟩, ⟨sC, 0, 0⟩], [⟨sGe, false, [], []⟩], [], [], []⟩
def exC : Crd := ⟨0, 1, -1, 2, 0, 100, 50, 0, true, false, 0, exIs s7⟩
def exL : List Trn := [⟨0, 10, 2, 0, 60, 0, [], exRd s7⟩, ⟨1, 11, 1, 0, 20, 0, exIs s8, []⟩, ⟨0, 20, 2, 0, 60, 0, [], exRd s8⟩, ⟨0, 21, 2, 0, 1, 0, [], exRd s7⟩, ⟨6, 22, 1, 0, 130, 0, [], []⟩, ⟨6, 22, 1, 0, 120, 0, [], []⟩]

theorem is_ok (s : ByteArray) : GC Tryz.prog 30 [sG s] (rowD (exIs s)) := by
  refine gc_of_gk Tryz.func30 ?_
  refine gk_region env false [] [0, 2] ?_ -- 0
  refine gk_region env false [.el default dmC (exIs s)] [2] ?_ -- 1
  refine gk_ret env ?_
  rfl

theorem reads_ok (s : ByteArray) : GC Tryz.prog 49 [sG s] (rowDc (exRd s)) := by
  refine gc_of_gk Tryz.func49 ?_
  refine gk_region env false [] [0, 2] ?_ -- 0
  refine gk_region env false [.el default strC [s], .fz, .el default wdC [[s]], .fz, .el default flC [⟨sNo, [[s]]⟩], .fz, .el default dcC (exRd s)] [2] ?_ -- 1
  refine gk_ret env ?_
  rfl

abbrev nilD : D := .sc (.slice none 0 0)
def ct0 (s : ByteArray) : List D := [.sc (.string s), .sc (.int .i64 0), .sc (.int .i64 0), nilD, nilD, nilD]
def od0 (s : ByteArray) : List D := [.sc (.string s), .sc (.bool false), nilD, nilD]
def trn0 (t : Trn) : List D := [.sc (.int .i64 t.kind), .sc (.int .i64 t.day), .sc (.int .i64 t.by_), .sc (.int .i64 t.to_), .sc (.int .i64 t.sum), .sc (.int .i64 t.no), (match t.terms with | [] => nilD | _ => .row default dmC t.terms), (match t.docs with | [] => nilD | _ => .row default dcC t.docs)]
theorem dent_trn (t : Trn) : DEntL (trn0 t) (trnC t) := by
  obtain ⟨a, b, c, d, e, f, g, h⟩ := t
  refine ⟨DEnt.refl _, DEnt.refl _, DEnt.refl _, DEnt.refl _, DEnt.refl _, DEnt.refl _, ?_, ?_, trivial⟩
  · cases g with
    | nil => exact DEnt.nil _ _
    | cons x l => exact DEnt.refl _
  · cases h with
    | nil => exact DEnt.nil _ _
    | cons x l => exact DEnt.refl _
theorem dent_ct : DEntLL (rowL ct0 [sLy]) (rowL ctC exR.cities) := by
  show DEntLL [ct0 sLy] [ctC _]
  exact ⟨⟨DEnt.refl _, DEnt.refl _, DEnt.refl _, DEnt.nil _ _, DEnt.nil _ _, DEnt.nil _ _, trivial⟩, trivial⟩
theorem dent_od : DEntLL (rowL od0 [sGe]) (rowL odC exR.orders) := by
  show DEntLL [od0 sGe] [odC _]
  exact ⟨⟨DEnt.refl _, DEnt.refl _, DEnt.nil _ _, DEnt.nil _ _, trivial⟩, trivial⟩
theorem dent_trns : ∀ l : List Trn, DEntLL (rowL trn0 l) (rowL trnC l) := by
  intro l
  induction l with
  | nil => trivial
  | cons t l ih => exact ⟨dent_trn t, ih⟩

theorem example_ok  : GC Tryz.prog 29 [] (.tup [rlG exR, crdG exC, rowTn exL]) := by
  refine gc_of_gk Tryz.func29 ?_
  refine gk_region env false [] [0, 1, 2] ?_ -- 0
  refine gk_region env false [.el default strC [sFr], .el default ct0 [sLy], .el default inC [0], .el default fmC [⟨sA, 0, 0⟩, ⟨sB, 0, 0⟩, ⟨sC, 0, 0⟩], .el default od0 [sGe]] [0, 1, 2, 3] ?_ -- 1
  refine gk_region env false [.call (is_ok s7)] [0, 1, 2, 3, 4] ?_ -- 2
  refine gk_region env false [.call (reads_ok s7), .call (is_ok s8), .call (reads_ok s8), .call (reads_ok s7), .el default trn0 exL] [0, 1, 2, 3, 4, 5] ?_ -- 3
  refine gk_region env false [] [0, 1, 2] ?_ -- 4
  refine gk_retE env ?_
  exact Ent.tup ⟨Ent.agg ⟨Ent.refl _, (DEnt.row dent_ct).ent, Ent.refl _, Ent.refl _, (DEnt.row dent_od).ent, Ent.nil, Ent.nil, Ent.nil, trivial⟩, Ent.refl _, (DEnt.row (dent_trns exL)).ent, trivial⟩
end Go.Gh
