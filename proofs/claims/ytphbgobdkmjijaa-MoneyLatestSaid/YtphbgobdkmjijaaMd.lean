/- Slices of rates: which rate a pair has on a day. -/
import Derived.Test.YtphbgobdkmjijaaMc
namespace Go.Proofs.Ytphbgobdkmjijaa
open Go.RowKit Mo

/-- the five cells of a rate -/
def RCell (w : World) (b o : Nat) (r : Rate) : Prop :=
  w.cell? ⟨b, o, none⟩ = some (.int .i64 r.f) ∧ w.cell? ⟨b, o + 1, none⟩ = some (.int .i64 r.t) ∧ w.cell? ⟨b, o + 2, none⟩ = some (.int .i64 r.n) ∧
  w.cell? ⟨b, o + 3, none⟩ = some (.int .i64 r.d) ∧ w.cell? ⟨b, o + 4, none⟩ = some (.int .i64 r.s)
/-- the parts of a rate are numbers of 64 bits -/
def RWf (r : Rate) : Prop := -9223372036854775808 ≤ r.n ∧ r.n ≤ 9223372036854775807 ∧ -9223372036854775808 ≤ r.d ∧ r.d ≤ 9223372036854775807
def RR (w : World) (B : Nat) (A : Option Addr) (rs : List Rate) : Prop :=
  (rs.length ≤ 9223372036854775807 ∧ ∀ r ∈ rs, RWf r) ∧ (rs ≠ [] → ∃ b off, A = some ⟨b, off, none⟩ ∧ b < B ∧ ∀ i r, rs[i]? = some r → RCell w b (off + i * 5) r)

theorem find_take (rs : List Rate) (f t day : Int) (k : Nat) (r : Rate) (h : rs[k]? = some r) :
    find (rs.take (k + 1)) f t day = pick f t day (find (rs.take k) f t day) r := by
  unfold find
  rw [List.take_add_one, h]
  simp

/-- the index that the reference keeps, and the rate -/
def IsBest (rs : List Rate) (k : Nat) (o : Option Rate) (x : Value) : Prop :=
  match o with
  | none => x = .int .i64 (-1)
  | some b => ∃ j : Nat, j < k ∧ rs[j]? = some b ∧ x = .int .i64 j
theorem IsBest.more {rs : List Rate} {k : Nat} {o : Option Rate} {x : Value} (h : IsBest rs k o x) : IsBest rs (k + 1) o x := by
  cases o with
  | none => exact h
  | some b => obtain ⟨j, a, c⟩ := h; exact ⟨j, by omega, c⟩
theorem IsBest.new {rs : List Rate} {k : Nat} {r : Rate} (h : rs[k]? = some r) : IsBest rs (k + 1) (some r) (.int .i64 k) := ⟨k, by omega, h, rfl⟩
def Same (w w' : World) : Prop := ∃ n, w' = w.drewN n

set_option maxHeartbeats 2000000 in
theorem refFind_some (b off c : Nat) (rs : List Rate) (f t day : Int) (w : World) (hl : rs.length ≤ 9223372036854775807)
    (hc : ∀ i r, rs[i]? = some r → RCell w b (off + i * 5) r) :
    Calls Try.prog 16 #[.slice (some ⟨b, off, none⟩) rs.length c, .int .i64 f, .int .i64 t, .int .i64 day] w fun e w' =>
      (∃ x, e = .returned x ∧ IsBest rs rs.length (find rs f t day) x) ∧ Same w w' := by
  have Hc := Lib.hid hc
  clear hc
  go_enter Try.func16, Try.ntmps16
  go_wp2
  go_loopw [9, 10] (fun x i wr => ∃ k : Nat, k ≤ rs.length ∧ i = .int .i64 k ∧ (∃ n, wr = w.drewN n) ∧ IsBest rs k (find (rs.take k) f t day) x) (fun _ i _ => rs.length - (intOf i).toNat)
  case atStart => exact ⟨0, Nat.zero_le _, rfl, ⟨0, rfl⟩, rfl⟩
  case round =>
    obtain ⟨k, hk, rfl, ⟨n, rfl⟩, hx⟩ := hrel
    by_cases hlt : k < rs.length
    · obtain ⟨r, hr⟩ : ∃ r, rs[k]? = some r := ⟨_, List.getElem?_eq_getElem hlt⟩
      obtain ⟨c1, c2, c3, c4, c5⟩ := Hc.out k r hr
      have hst := Lib.hid (find_take rs f t day k r hr)
      have Hr := Lib.hid hr
      clear hr
      by_cases hm : r.f = f ∧ r.t = t ∧ r.s ≤ day
      · have b1 : (r.f != f) = false := by simp [hm.1]
        have b2 : (r.t != t) = false := by simp [hm.2.1]
        have b3 : ¬ day < r.s := by omega
        have b3' : decide (day < r.s) = false := by simp; omega
        cases ho : find (rs.take k) f t day with
        | none =>
          rw [ho] at hx
          obtain rfl : _ = Value.int .i64 (-1) := hx
          have hn : find (rs.take (k + 1)) f t day = some r := by rw [hst.out, ho]; simp [pick, hm]
          have Hn := Lib.hid hn
          clear hn ho hm hst
          go_wp2
          go_quiet (fail)
          go_wp2
          go_roundw
          case rel => exact ⟨k + 1, by omega, by go_num, ⟨_, rfl⟩, by rw [Hn.out]; exact IsBest.new Hr.out⟩
          case measure => simp [intOf]; omega
        | some bb =>
          rw [ho] at hx
          obtain ⟨j, hj, hjr, rfl⟩ := hx
          obtain ⟨d1, d2, d3, d4, d5⟩ := Hc.out j bb hjr
          have Hj := Lib.hid hjr
          clear hjr
          have g1 : ¬ (j : Int) < 0 := by omega
          have g1' : decide ((j : Int) < 0) = false := by simp
          by_cases hs : bb.s < r.s
          · have hn : find (rs.take (k + 1)) f t day = some r := by rw [hst.out, ho]; simp [pick, hm, hs]
            have Hn := Lib.hid hn
            clear hn ho hm hst
            go_wp2
            go_quiet (fail)
            go_wp2
            go_roundw
            case rel => exact ⟨k + 1, by omega, by go_num, ⟨_, rfl⟩, by rw [Hn.out]; exact IsBest.new Hr.out⟩
            case measure => simp [intOf]; omega
          · have hn : find (rs.take (k + 1)) f t day = some bb := by rw [hst.out, ho]; simp [pick, hm, hs]
            have Hn := Lib.hid hn
            clear hn ho hm hst
            go_wp2
            go_quiet (fail)
            go_wp2
            go_roundw
            case rel => exact ⟨k + 1, by omega, by go_num, ⟨_, rfl⟩, by rw [Hn.out]; exact ⟨j, by omega, Hj.out, rfl⟩⟩
            case measure => simp [intOf]; omega
      · have hn : find (rs.take (k + 1)) f t day = find (rs.take k) f t day := by rw [hst.out]; unfold pick; rw [if_neg hm]
        have Hn := Lib.hid hn
        have Hm := Lib.hid hm
        clear hn hst
        by_cases hf : r.f = f
        · by_cases ht : r.t = t
          · have b1 : (r.f != f) = false := by simp [hf]
            have b2 : (r.t != t) = false := by simp [ht]
            have b3 : day < r.s := by omega
            clear hm hf ht
            go_wp2
            go_roundw
            case rel => exact ⟨k + 1, by omega, by go_num, ⟨_, rfl⟩, by rw [Hn.out]; exact hx.more⟩
            case measure => simp [intOf]; omega
          · have b1 : (r.f != f) = false := by simp [hf]
            have b2 : (r.t != t) = true := by simp [ht]
            clear hm hf ht
            go_wp2
            go_roundw
            case rel => exact ⟨k + 1, by omega, by go_num, ⟨_, rfl⟩, by rw [Hn.out]; exact hx.more⟩
            case measure => simp [intOf]; omega
        · have b1 : (r.f != f) = true := by simp [hf]
          clear hm hf
          go_wp2
          go_roundw
          case rel => exact ⟨k + 1, by omega, by go_num, ⟨_, rfl⟩, by rw [Hn.out]; exact hx.more⟩
          case measure => simp [intOf]; omega
    · obtain rfl : k = rs.length := by omega
      rw [List.take_length] at hx
      go_wp2
      go_ret
      exact ⟨⟨_, rfl, hx⟩, _, rfl⟩

theorem refFind_none (a : Option Addr) (c : Nat) (f t day : Int) (w : World) :
    Calls Try.prog 16 #[.slice a 0 c, .int .i64 f, .int .i64 t, .int .i64 day] w fun e w' =>
      (∃ x, e = .returned x ∧ IsBest [] 0 (find [] f t day) x) ∧ Same w w' := by
  go_enter Try.func16, Try.ntmps16
  go_wp2
  refine wp_loop_rounds 1 ?_
  rw [rounds_succ]
  go_wp2
  go_ret
  exact ⟨⟨_, rfl, rfl⟩, 0, rfl⟩

theorem refFind_any (A : Option Addr) (B c : Nat) (rs : List Rate) (f t day : Int) (w : World) (hr : RR w B A rs) :
    Calls Try.prog 16 #[.slice A rs.length c, .int .i64 f, .int .i64 t, .int .i64 day] w fun e w' =>
      (∃ x, e = .returned x ∧ IsBest rs rs.length (find rs f t day) x) ∧ Same w w' := by
  cases rs with
  | nil => exact refFind_none A c f t day w
  | cons r l =>
    obtain ⟨b, off, rfl, _, hc⟩ := hr.2 (by simp)
    exact refFind_some b off c (r :: l) f t day w hr.1.1 hc

end Go.Proofs.Ytphbgobdkmjijaa
