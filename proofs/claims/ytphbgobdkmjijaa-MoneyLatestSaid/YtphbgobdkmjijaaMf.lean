/- The program's conversion. -/
import Derived.Test.YtphbgobdkmjijaaMe
namespace Go.Proofs.Ytphbgobdkmjijaa
open Go.RowKit Mo

def rcs (r : Rate) : Array Value := #[.int .i64 r.f, .int .i64 r.t, .int .i64 r.n, .int .i64 r.d, .int .i64 r.s]
def zeroRate : Rate := ⟨0, 0, 0, 0, 0⟩
/-- block g holds just this rate -/
def RB (w : World) (g : Nat) (r : Rate) : Prop := w.heap[g]? = some (.cells (rcs r) 36 (0, 0))
theorem RB.lt {w : World} {g : Nat} {r : Rate} (h : RB w g r) : g < w.heap.size := by
  rcases Nat.lt_or_ge g w.heap.size with hlt | hge
  · exact hlt
  · unfold RB at h; rw [Array.getElem?_eq_none hge] at h; cases h
theorem RB.cells {w : World} {g : Nat} {r : Rate} (h : RB w g r) : RCell w g 0 r := by
  unfold RB at h
  refine ⟨?_, ?_, ?_, ?_, ?_⟩ <;> simp [World.cell?, h, rcs]
theorem RB.frozen {w : World} {g : Nat} {r : Rate} (h : RB w g r) (i : Nat) : w.frozen? ⟨g, i, none⟩ = false := by
  unfold RB at h
  simp [World.frozen?, h]
theorem RB.alloc {w : World} {g : Nat} {r : Rate} (h : RB w g r) (o : Obj) : RB (w.alloc o) g r := (Below.heap_alloc w o g h.lt).trans h

/-- the rate r stored into block g, field by field -/
def put5 (w : World) (g : Nat) (r : Rate) : World :=
  ((((w.setCell ⟨g, 0, none⟩ (.int .i64 r.f)).setCell ⟨g, 1, none⟩ (.int .i64 r.t)).setCell ⟨g, 2, none⟩ (.int .i64 r.n)).setCell ⟨g, 3, none⟩ (.int .i64 r.d)).setCell ⟨g, 4, none⟩ (.int .i64 r.s)
theorem RB.put {w : World} {g : Nat} {r : Rate} (h : RB w g r) (q : Rate) : RB (put5 w g q) g q := by
  unfold RB at h ⊢
  simp [put5, World.setCell, Array.getElem?_modify, h, rcs]
theorem RB.far {w : World} {g : Nat} {r : Rate} (h : RB w g r) {g' : Nat} (hg : g ≠ g') (q : Rate) : RB (put5 w g' q) g r := by
  unfold RB at h ⊢
  have e : g' ≠ g := fun e => hg e.symm
  simp [put5, World.setCell, Array.getElem?_modify, h, e]
theorem below_put5 {B : Nat} {a w : World} (h : Below B a w) {g : Nat} (hg : B ≤ g) (q : Rate) : Below B a (put5 w g q) :=
  ((((h.setCell hg _).setCell hg _).setCell hg _).setCell hg _).setCell hg _
theorem size_put5 (w : World) (g : Nat) (q : Rate) : (put5 w g q).heap.size = w.heap.size := by simp [put5]

/-- what the loop keeps -/
def Kept (w wr : World) (o : Option Rate) : Prop := RB wr (w.heap.size + 1) (o.getD zeroRate) ∧ RB wr w.heap.size zeroRate ∧ Below w.heap.size w wr
theorem Kept.same {w wr : World} {o : Option Rate} (h : Kept w wr o) (x : Obj) : Kept w (wr.alloc x) o :=
  ⟨h.1.alloc x, h.2.1.alloc x, h.2.2.alloc h.2.2.size x⟩
theorem Kept.new {w wr : World} {o : Option Rate} (h : Kept w wr o) (q : Rate) (x : Obj) : Kept w ((put5 wr (w.heap.size + 1) q).alloc x) (some q) :=
  ⟨(h.1.put q).alloc x, (h.2.1.far (by omega) q).alloc x, (below_put5 h.2.2 (by omega) q).alloc (by rw [size_put5]; exact h.2.2.size) x⟩

def flagOf (o : Option Rate) : Bool := o.isSome
def bestOf (o : Option Rate) : Rate := o.getD zeroRate

set_option maxHeartbeats 4000000 in
theorem latest_any (A : Option Addr) (c : Nat) (rs : List Rate) (f t day : Int) (w : World) (hr : RR w w.heap.size A rs) :
    Calls Try.prog 21 #[.slice A rs.length c, .int .i64 f, .int .i64 t, .int .i64 day] w fun e w' =>
      e = .returned (.tuple #[.agg (rcs (bestOf (find rs f t day))), .bool (flagOf (find rs f t day))]) ∧ Below w.heap.size w w' := by
  have hlen := hr.1.1
  have Hr := Lib.hid hr
  clear hr
  go_enter Try.func21, Try.ntmps21
  go_wp2
  go_loopw [11, 13, 16] (fun x _ i wr => ∃ k : Nat, k ≤ rs.length ∧ i = .int .i64 k ∧ x = .bool (flagOf (find (rs.take k) f t day)) ∧ Hid (Kept w wr (find (rs.take k) f t day))) (fun _ _ i _ => rs.length - (intOf i).toNat)
  case atStart =>
    refine ⟨0, Nat.zero_le _, rfl, rfl, ?_, ?_, ?_⟩
    · have := heap_alloc_new (w.alloc (.cells (rcs zeroRate) 36)) (.cells (rcs zeroRate) 36)
      rw [World.size_alloc] at this
      exact this
    · exact (Below.heap_alloc _ _ _ (by simp)).trans (heap_alloc_new w (.cells (rcs zeroRate) 36))
    · exact ((Below.refl _ _).alloc (Nat.le_refl _) _).alloc (by simp) _
  case round =>
    obtain ⟨k, hk, rfl, rfl, HW⟩ := hrel
    by_cases hlt : k < rs.length
    · obtain ⟨r, hrk⟩ : ∃ r, rs[k]? = some r := ⟨_, List.getElem?_eq_getElem hlt⟩
      obtain ⟨b, off, rfl, hb, hcs⟩ := Hr.out.2 (by rintro rfl; simp at hlt)
      have hc0 := hcs k r hrk
      have Hst := Lib.hid (find_take rs f t day k r hrk)
      clear hcs hrk
      obtain ⟨c1, c2, c3, c4, c5⟩ : RCell wr b (off + k * 5) r := by
        obtain ⟨c1, c2, c3, c4, c5⟩ := hc0
        have hB := HW.out.2.2
        exact ⟨(hB.cell hb).trans c1, (hB.cell hb).trans c2, (hB.cell hb).trans c3, (hB.cell hb).trans c4, (hB.cell hb).trans c5⟩
      obtain ⟨g1, g2, g3, g4, g5⟩ := HW.out.1.cells
      have fz := HW.out.1.frozen
      have sz := HW.out.1.lt
      simp only [Nat.zero_add] at g2 g3 g4 g5
      obtain ⟨o, ho⟩ : ∃ o, o = find (rs.take k) f t day := ⟨_, rfl⟩
      rw [← ho] at HW Hst g1 g2 g3 g4 g5 ⊢
      clear ho hc0
      by_cases hm : r.f = f ∧ r.t = t ∧ r.s ≤ day
      · have b1 : (r.f == f) = true := by simp [hm.1]
        have b2 : (r.t == t) = true := by simp [hm.2.1]
        have b3 : r.s ≤ day := hm.2.2
        cases o with
        | none =>
          have hn : find (rs.take (k + 1)) f t day = some r := by rw [Hst.out]; simp [pick, hm]
          have Hn := Lib.hid hn
          clear hn hm Hst
          have e1 : flagOf none = false := rfl
          go_wp2
          go_roundw
          case rel =>
            refine ⟨k + 1, by omega, by go_num, ?_, ?_⟩
            · rw [Hn.out]; try rfl
            · rw [Hn.out]; exact HW.out.new r _
          case measure => simp [intOf]; omega
        | some bb =>
          have e1 : flagOf (some bb) = true := rfl
          by_cases hs : bb.s < r.s
          · have hn : find (rs.take (k + 1)) f t day = some r := by rw [Hst.out]; simp [pick, hm, hs]
            have Hn := Lib.hid hn
            clear hn hm Hst
            go_wp2
            go_roundw
            case rel =>
              refine ⟨k + 1, by omega, by go_num, ?_, ?_⟩
              · rw [Hn.out]; try rfl
              · rw [Hn.out]; exact HW.out.new r _
            case measure => simp [intOf]; omega
          · have hn : find (rs.take (k + 1)) f t day = some bb := by rw [Hst.out]; simp [pick, hm, hs]
            have Hn := Lib.hid hn
            clear hn hm Hst
            go_wp2
            go_roundw
            case rel =>
              refine ⟨k + 1, by omega, by go_num, ?_, ?_⟩
              · rw [Hn.out]; try rfl
              · rw [Hn.out]; exact HW.out.same _
            case measure => simp [intOf]; omega
      · have hn : find (rs.take (k + 1)) f t day = o := by rw [Hst.out]; unfold pick; rw [if_neg hm]
        have Hn := Lib.hid hn
        clear hn Hst
        by_cases hf : r.f = f
        · by_cases ht : r.t = t
          · have b1 : (r.f == f) = true := by simp [hf]
            have b2 : (r.t == t) = true := by simp [ht]
            have b3 : day < r.s := by omega
            clear hm hf ht
            go_wp2
            go_roundw
            case rel =>
              refine ⟨k + 1, by omega, by go_num, ?_, ?_⟩
              · rw [Hn.out]
              · rw [Hn.out]; exact HW.out.same _
            case measure => simp [intOf]; omega
          · have b1 : (r.f == f) = true := by simp [hf]
            have b2 : (r.t == t) = false := by simp [ht]
            clear hm hf ht
            go_wp2
            go_roundw
            case rel =>
              refine ⟨k + 1, by omega, by go_num, ?_, ?_⟩
              · rw [Hn.out]
              · rw [Hn.out]; exact HW.out.same _
            case measure => simp [intOf]; omega
        · have b1 : (r.f == f) = false := by simp [hf]
          clear hm hf
          go_wp2
          go_roundw
          case rel =>
            refine ⟨k + 1, by omega, by go_num, ?_, ?_⟩
            · rw [Hn.out]
            · rw [Hn.out]; exact HW.out.same _
          case measure => simp [intOf]; omega
    · obtain rfl : k = rs.length := by omega
      rw [List.take_length] at HW ⊢
      obtain ⟨o, ho⟩ : ∃ o, o = find rs f t day := ⟨_, rfl⟩
      rw [← ho] at HW ⊢
      obtain ⟨g1, g2, g3, g4, g5⟩ := HW.out.1.cells
      obtain ⟨k1, k2, k3, k4, k5⟩ := HW.out.2.1.cells
      have fz := HW.out.2.1.frozen
      have sz := HW.out.1.lt
      simp only [Nat.zero_add] at g2 g3 g4 g5 k2 k3 k4 k5
      have Ho := Lib.hid ho
      clear ho
      go_wp2
      obtain ⟨l1, l2, l3, l4, l5⟩ := (HW.out.2.1.put (o.getD zeroRate)).cells
      simp only [Nat.zero_add, put5] at l1 l2 l3 l4 l5
      refine bodyPost_ret (v := .tuple #[.agg (rcs (bestOf o)), .bool (flagOf o)]) ?_ rfl ⟨by rw [Ho.out], below_put5 HW.out.2.2 (Nat.le_refl _) _⟩
      simp [results, Try.results21, go_sem, rcs, bestOf, l1, l2, l3, l4, l5]

end Go.Proofs.Ytphbgobdkmjijaa
