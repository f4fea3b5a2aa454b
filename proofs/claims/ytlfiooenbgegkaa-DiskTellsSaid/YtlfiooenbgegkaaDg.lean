/- Write, walked. -/
import Derived.Test.YtlfiooenbgegkaaDf
namespace Go.Proofs.Ytlfiooenbgegkaa
open Go.RowKit Ds
set_option linter.unusedSimpArgs false
set_option linter.unusedVariables false

theorem repeatL_zero (c : Nat) : (⟨(Lib.repeatL [0] c).toArray⟩ : ByteArray) = zeros c := by
  have : Lib.repeatL [0] c = List.replicate c (0 : UInt8) := by
    induction c with
    | zero => rfl
    | succ c ih => show [0] ++ Lib.repeatL [0] c = _; rw [ih]; rfl
  rw [this]; unfold zeros; simp
theorem repeat_pad (s : ByteArray) (h : s.size ≤ 16) (w : World) : Calls Try.prog 31 #[.string ⟨#[0]⟩, .int .i64 (16 - (s.size : Int))] w fun e w' => e = .returned (.string (zeros (16 - s.size))) ∧ Below w.heap.size w w' := by
  have e : (16 - (s.size : Int)) = ((16 - s.size : Nat) : Int) := by omega
  rw [e]
  refine (Try.strings_Repeat ⟨#[0]⟩ (16 - s.size) w (by omega) ?_).mono fun e w' ⟨h1, h2⟩ => ⟨?_, h2⟩
  · have : (⟨#[0]⟩ : ByteArray).size = 1 := rfl
    rw [this]; omega
  · rw [h1]
    show Ending.returned (.string ⟨(Lib.repeatL [0] (16 - s.size)).toArray⟩) = _
    rw [repeatL_zero]
theorem fresh_base {w w1 w2 : World} {g : Nat} {A2 : Option Addr} {c2 : Nat} {d : Dk} (h : FreshAt w1 w2 g A2 c2 d) (hb : Below w.heap.size w w1) : FreshAt w w2 g A2 c2 d :=
  ⟨Nat.le_trans hb.size h.1, h.2.1, h.2.2.1.rebase hb, h.2.2.2⟩
theorem fresh_ne {w1 w2 : World} {g : Nat} {A2 : Option Addr} {c2 : Nat} {d : Dk} (h : FreshAt w1 w2 g A2 c2 d) {k : Nat} (hk : k < w1.heap.size) : (Value.slice A2 d.pend.length c2).ownBlock ≠ some k ∧ g ≠ k :=
  ⟨fun e => by have := own_ge' h.2.2.1.1 e; omega, fun e => by have := h.1; omega⟩
theorem fresh_secs {w w' : World} {g : Nat} {l : List ByteArray} (h : w'.heap[g]? = some (.cells (scells l).toArray 9 (0, 0))) : RowOf scell 1 w' w'.heap.size (some ⟨g, 0, none⟩) l := fun _ =>
  ⟨g, 0, rfl, blk_lt h, fun i x hx j u hu => blk_cell h (by rw [List.getElem?_toArray, Nat.zero_add]; exact flatMap_at scell_len l i x hx j u hu)⟩
theorem fresh_disk {w w' : World} {g : Nat} {A2 : Option Addr} {c2 : Nat} {d : Dk} (h : FreshAt w w' g A2 c2 d) (h1 : d.secs.length ≤ 512) (h2 : d.pend.length ≤ 512) : DiskAt w' w'.heap.size (some ⟨g, 0, none⟩) d.secs.length A2 c2 d :=
  ⟨fresh_secs (w := w) h.2.1, Own.row wcell_len rfl h.2.2.1, by omega, by omega, h.2.2.1.lt⟩

/-- a call of up, as the contracts of the calls that begin with it want it -/
abbrev UpGives (A : Option Addr) (n c : Nat) (A' : Option Addr) (n' c' : Nat) (left : Int) (down : Bool) (er : Int) (w : World) : Prop :=
  ∀ wx, Below w.heap.size w wx → Calls Try.prog 34 #[.agg #[.slice A n c, .slice A' n' c', .int .i64 left, .bool down]] wx fun e w' => e = .returned (.int .i64 er) ∧ Below wx.heap.size wx w'

theorem write_bad (A : Option Addr) (n c : Nat) (A' : Option Addr) (n' c' : Nat) (left : Int) (down : Bool) (k : Int) (s : ByteArray) (er : Int) (w : World) (HU : Hid (UpGives A n c A' n' c' left down er w)) (h : er ≠ 0) :
    Calls Try.prog 17 #[.agg #[.slice A n c, .slice A' n' c', .int .i64 left, .bool down], .int .i64 k, .string s] w (DiskEnd w nilD er) := by
  have t1 : (er != 0) = true := by simpa using h
  clear h
  go_enter Try.func17, Try.ntmps17
  go_wp2_with fail
  refine (HU.out _ (by repeat first | with_reducible exact Below.refl _ _ | refine Below.alloc ?_ (by simp <;> omega) _)).mono ?_
  rintro e w1 ⟨rfl, b1⟩
  obtain ⟨⟨k1, k2⟩, hb, hz⟩ := boxes2 b1 (by simp)
  obtain ⟨⟨a0, a1, a2, a3⟩, f0, f1, f2, f3⟩ := blk4 k2
  have HB := Lib.hid hb
  clear k1 k2 b1 hb
  go_wp2_with fail
  refine bodyPost_ret (v := .tuple #[dv none 0 none 0 nilD, .int .i64 er]) (by simp [results, Try.results17, go_sem, dv, dcells, nilD, *]) rfl (DiskEnd.none_ ?_)
  repeat first | with_reducible exact HB.out | refine Below.setCell ?_ (by simp only; omega) _

theorem write_out (A : Option Addr) (n c : Nat) (A' : Option Addr) (n' c' : Nat) (left : Int) (down : Bool) (k : Int) (s : ByteArray) (er : Int) (w : World) (HU : Hid (UpGives A n c A' n' c' left down 0 w))
    (h : (k < 0 ∧ er = 1) ∨ (0 ≤ k ∧ (n : Int) ≤ k ∧ er = 1) ∨ (0 ≤ k ∧ k < n ∧ 16 < s.size ∧ er = 1) ∨ (0 ≤ k ∧ k < n ∧ s.size ≤ 16 ∧ n' = 512 ∧ er = 6)) :
    Calls Try.prog 17 #[.agg #[.slice A n c, .slice A' n' c', .int .i64 left, .bool down], .int .i64 k, .string s] w (DiskEnd w nilD er) := by
  rcases h with ⟨h, rfl⟩ | ⟨h, h2, rfl⟩ | ⟨h, h2, h3, rfl⟩ | ⟨h, h2, h3, rfl, rfl⟩
  all_goals
    go_enter Try.func17, Try.ntmps17
    go_wp2_with fail
    refine (HU.out _ (by repeat first | with_reducible exact Below.refl _ _ | refine Below.alloc ?_ (by simp <;> omega) _)).mono ?_
    rintro e w1 ⟨rfl, b1⟩
    obtain ⟨⟨k1, k2⟩, hb, hz⟩ := boxes2 b1 (by simp)
    obtain ⟨⟨a0, a1, a2, a3⟩, f0, f1, f2, f3⟩ := blk4 k2
    obtain ⟨⟨a4, a5, a6, a7⟩, f4⟩ := blk4 k1
    have HB := Lib.hid hb
    clear k1 k2 b1 hb f4
    go_wp2_with fail
    refine bodyPost_ret (v := .tuple #[dv none 0 none 0 nilD, .int .i64 _]) (by simp [results, Try.results17, go_sem, dv, dcells, nilD, *]) rfl (DiskEnd.none_ ?_)
    repeat first | with_reducible exact HB.out | refine Below.setCell ?_ (by simp only; omega) _

end Go.Proofs.Ytlfiooenbgegkaa
