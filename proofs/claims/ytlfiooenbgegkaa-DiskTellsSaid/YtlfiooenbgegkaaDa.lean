/- A disk in memory; right, walked. -/
import Derived.Test.YtlfiooenbgegkaaDDef
import Derived.Test.YtlfiooenbgegkaaOwn
import Derived.Test.YtlfiooenbgegkaaWords
import Derived.Test.YtlfiooenbgegkaaShelf
import Derived.WalkKit
import Derived.WalkSpells
import Derived.WalkLawsBesides
import Derived.Handy
import Derived.Deep.QuietTactic
import Derived.BigQuiet
import Derived.Deep.DeepCutAuto
import Derived.Lib.Hide
import Derived.Outline
namespace Go.Proofs.Ytlfiooenbgegkaa
open Go.RowKit Ds
set_option linter.unusedSimpArgs false
set_option linter.unusedVariables false

def scell (s : ByteArray) : List Value := [.string s]
def wcell (x : Wr) : List Value := [.int .i64 x.at_, .string x.text]
theorem scell_len (x : ByteArray) : (scell x).length = 1 := rfl
theorem wcell_len (x : Wr) : (wcell x).length = 2 := rfl
/-- a disk's two slices in memory -/
structure DiskAt (w : World) (B : Nat) (A : Option Addr) (c : Nat) (A' : Option Addr) (c' : Nat) (d : Dk) : Prop where
  secs : RowOf scell 1 w B A d.secs
  pend : RowOf wcell 2 w B A' d.pend
  lS : d.secs.length ≤ 9223372036854775807
  lP : d.pend.length ≤ 9223372036854775807
  cP : d.pend.length ≤ c'
def dcells (A : Option Addr) (c : Nat) (A' : Option Addr) (c' : Nat) (d : Dk) : Array Value := #[.slice A d.secs.length c, .slice A' d.pend.length c', .int .i64 d.left, .bool d.down]
def dv (A : Option Addr) (c : Nat) (A' : Option Addr) (c' : Nat) (d : Dk) : Value := .agg (dcells A c A' c' d)
section
variable {w w' : World} {B B' : Nat} {A A' : Option Addr} {c c' : Nat} {d : Dk}
theorem DiskAt.more (h : DiskAt w B A c A' c' d) (hB : B ≤ B') : DiskAt w B' A c A' c' d := ⟨h.secs.more hB, h.pend.more hB, h.lS, h.lP, h.cP⟩
theorem DiskAt.below (h : DiskAt w B A c A' c' d) (hb : Below B w w') : DiskAt w' B A c A' c' d := ⟨h.secs.below hb, h.pend.below hb, h.lS, h.lP, h.cP⟩
theorem DiskAt.step (h : DiskAt w w.heap.size A c A' c' d) (hb : Below w.heap.size w w') : DiskAt w' w'.heap.size A c A' c' d := (h.below hb).more hb.size
theorem secs_at {b off : Nat} {l : List ByteArray} (h : ∀ i x, l[i]? = some x → ∀ j u, (scell x)[j]? = some u → w.cell? ⟨b, off + i * 1 + j, none⟩ = some u) {i : Nat} {x : ByteArray} (hx : l[i]? = some x) :
    w.cell? ⟨b, off + i, none⟩ = some (.string x) := by
  have := h i x hx 0 _ rfl
  rwa [Nat.mul_one] at this
theorem pend_at {b off : Nat} {l : List Wr} (h : ∀ i x, l[i]? = some x → ∀ j u, (wcell x)[j]? = some u → w.cell? ⟨b, off + i * 2 + j, none⟩ = some u) {i : Nat} {x : Wr} (hx : l[i]? = some x) :
    w.cell? ⟨b, off + i * 2, none⟩ = some (.int .i64 x.at_) ∧ w.cell? ⟨b, off + i * 2 + 1, none⟩ = some (.string x.text) := ⟨h i x hx 0 _ rfl, h i x hx 1 _ rfl⟩
end

theorem take_all {α : Type} {l : List α} {p : α → Bool} {k : Nat} {x : α} (hx : l[k]? = some x) (h : (l.take k).all p = true) (hp : p x = true) : (l.take (k + 1)).all p = true := by
  rw [List.take_add_one, hx, List.all_append, h]; simp [hp]
theorem not_all {α : Type} {l : List α} {p : α → Bool} {k : Nat} {x : α} (hx : l[k]? = some x) (hp : p x = false) : l.all p = false := by
  rw [List.all_eq_false]
  exact ⟨x, List.mem_of_getElem? hx, by simp [hp]⟩

theorem right_bad {l : List ByteArray} {p : List Wr} {left : Int} {down : Bool} (h : (headB ⟨l, p, left, down⟩ && downB ⟨l, p, left, down⟩) = false) : rightB ⟨l, p, left, down⟩ = false := by
  unfold rightB; rw [h]; rfl
theorem right_good {l : List ByteArray} {p : List Wr} {left : Int} {down : Bool} (h : (headB ⟨l, p, left, down⟩ && downB ⟨l, p, left, down⟩) = true) : rightB ⟨l, p, left, down⟩ = (l.all okS && p.all (okW l.length)) := by
  unfold rightB; rw [h]; simp only [Bool.true_and]
/-- what fails ahead of the loops -/
theorem bad_ways {l : List ByteArray} {p : List Wr} {left : Int} {down : Bool} (h : (headB ⟨l, p, left, down⟩ && downB ⟨l, p, left, down⟩) = false) :
    (l.length < 1) ∨ (1 ≤ l.length ∧ 512 < l.length) ∨ (1 ≤ l.length ∧ l.length ≤ 512 ∧ 512 < p.length) ∨ (1 ≤ l.length ∧ l.length ≤ 512 ∧ p.length ≤ 512 ∧ left < -1) ∨
    (1 ≤ l.length ∧ l.length ≤ 512 ∧ p.length ≤ 512 ∧ -1 ≤ left ∧ 512 < left) ∨ (1 ≤ l.length ∧ l.length ≤ 512 ∧ p.length ≤ 512 ∧ -1 ≤ left ∧ left ≤ 512 ∧ down = true ∧ 0 < p.length) ∨
    (1 ≤ l.length ∧ l.length ≤ 512 ∧ p.length = 0 ∧ -1 ≤ left ∧ left ≤ 512 ∧ down = true ∧ left ≠ -1) := by
  by_cases g : 1 ≤ l.length ∧ l.length ≤ 512 ∧ p.length ≤ 512 ∧ -1 ≤ left ∧ left ≤ 512
  · obtain ⟨g1, g2, g3, g4, g5⟩ := g
    cases down with
    | false => simp [headB, downB, g1, g2, g3, g4, g5] at h
    | true =>
      rcases Nat.eq_zero_or_pos p.length with g6 | g6
      · refine .inr (.inr (.inr (.inr (.inr (.inr ⟨g1, g2, g6, g4, g5, rfl, fun e => ?_⟩)))))
        subst e
        simp [headB, downB, g1, g2, g6] at h
      · exact .inr (.inr (.inr (.inr (.inr (.inl ⟨g1, g2, g3, g4, g5, rfl, g6⟩)))))
  · have : (l.length < 1) ∨ (1 ≤ l.length ∧ 512 < l.length) ∨ (1 ≤ l.length ∧ l.length ≤ 512 ∧ 512 < p.length) ∨ (1 ≤ l.length ∧ l.length ≤ 512 ∧ p.length ≤ 512 ∧ left < -1) ∨
        (1 ≤ l.length ∧ l.length ≤ 512 ∧ p.length ≤ 512 ∧ -1 ≤ left ∧ 512 < left) := by omega
    rcases this with h | h | h | h | h
    · exact .inl h
    · exact .inr (.inl h)
    · exact .inr (.inr (.inl h))
    · exact .inr (.inr (.inr (.inl h)))
    · exact .inr (.inr (.inr (.inr (.inl h))))
theorem good_ways {l : List ByteArray} {p : List Wr} {left : Int} {down : Bool} (h : (headB ⟨l, p, left, down⟩ && downB ⟨l, p, left, down⟩) = true) :
    1 ≤ l.length ∧ l.length ≤ 512 ∧ p.length ≤ 512 ∧ -1 ≤ left ∧ left ≤ 512 ∧ (down = false ∨ (down = true ∧ p.length = 0 ∧ left = -1)) := by
  simp only [headB, downB, Bool.and_eq_true, decide_eq_true_eq, Bool.or_eq_true, Bool.not_eq_true'] at h
  cases down <;> simp_all

set_option maxHeartbeats 4000000 in
theorem right_no (A : Option Addr) (c : Nat) (A' : Option Addr) (c' n m : Nat) (left : Int) (down : Bool) (w : World)
    (h : (n < 1) ∨ (1 ≤ n ∧ 512 < n) ∨ (1 ≤ n ∧ n ≤ 512 ∧ 512 < m) ∨ (1 ≤ n ∧ n ≤ 512 ∧ m ≤ 512 ∧ left < -1) ∨ (1 ≤ n ∧ n ≤ 512 ∧ m ≤ 512 ∧ -1 ≤ left ∧ 512 < left) ∨
      (1 ≤ n ∧ n ≤ 512 ∧ m ≤ 512 ∧ -1 ≤ left ∧ left ≤ 512 ∧ down = true ∧ 0 < m) ∨ (1 ≤ n ∧ n ≤ 512 ∧ m = 0 ∧ -1 ≤ left ∧ left ≤ 512 ∧ down = true ∧ left ≠ -1)) :
    Calls Try.prog 33 #[.agg #[.slice A n c, .slice A' m c', .int .i64 left, .bool down]] w fun e w' => e = .returned (.bool false) ∧ Below w.heap.size w w' := by
  rcases h with h | ⟨h1, h2⟩ | ⟨h1, h2, h3⟩ | ⟨h1, h2, h3, h4⟩ | ⟨h1, h2, h3, h4, h5⟩ | ⟨h1, h2, h3, h4, h5, rfl, h6⟩ | ⟨h1, h2, rfl, h4, h5, rfl, h6⟩
  case inr.inr.inr.inr.inr.inr =>
    have h7 : (left == -1) = false := by simpa using h6
    have h8 : (left != -1) = true := by simpa using h6
    clear h6
    go_enter Try.func33, Try.ntmps33
    go_wp2_with fail
    go_ret
    exact ⟨rfl, (Below.refl _ _).alloc (Nat.le_refl _) _⟩
  all_goals
    go_enter Try.func33, Try.ntmps33
    go_wp2_with fail
    go_ret
    exact ⟨rfl, (Below.refl _ _).alloc (Nat.le_refl _) _⟩

end Go.Proofs.Ytlfiooenbgegkaa
