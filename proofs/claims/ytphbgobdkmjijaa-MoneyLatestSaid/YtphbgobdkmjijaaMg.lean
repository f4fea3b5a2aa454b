/- The program's conversion, whole. -/
import Derived.Test.YtphbgobdkmjijaaMf
namespace Go.Proofs.Ytphbgobdkmjijaa
open Go.RowKit Mo

theorem latest_yes (A : Option Addr) (c : Nat) (rs : List Rate) (f t day : Int) (r : Rate) (w : World) (hr : RR w w.heap.size A rs) (h : find rs f t day = some r) :
    Calls Try.prog 21 #[.slice A rs.length c, .int .i64 f, .int .i64 t, .int .i64 day] w fun e w' =>
      e = .returned (.tuple #[.agg #[.int .i64 r.f, .int .i64 r.t, .int .i64 r.n, .int .i64 r.d, .int .i64 r.s], .bool true]) ∧ Below w.heap.size w w' := by
  have := latest_any A c rs f t day w hr
  rw [h] at this
  exact this
theorem latest_no (A : Option Addr) (c : Nat) (rs : List Rate) (f t day : Int) (w : World) (hr : RR w w.heap.size A rs) (h : find rs f t day = none) :
    Calls Try.prog 21 #[.slice A rs.length c, .int .i64 f, .int .i64 t, .int .i64 day] w fun e w' =>
      e = .returned (.tuple #[.agg #[.int .i64 0, .int .i64 0, .int .i64 0, .int .i64 0, .int .i64 0], .bool false]) ∧ Below w.heap.size w w' := by
  have := latest_any A c rs f t day w hr
  rw [h] at this
  exact this
theorem RR.below {w w' : World} {B : Nat} {A : Option Addr} {rs : List Rate} (h : RR w B A rs) (hb : Below B w w') : RR w' B A rs := by
  refine ⟨h.1, fun hne => ?_⟩
  obtain ⟨b, off, rfl, hlt, hc⟩ := h.2 hne
  refine ⟨b, off, rfl, hlt, fun i r hi => ?_⟩
  obtain ⟨c1, c2, c3, c4, c5⟩ := hc i r hi
  exact ⟨(hb.cell hlt).trans c1, (hb.cell hlt).trans c2, (hb.cell hlt).trans c3, (hb.cell hlt).trans c4, (hb.cell hlt).trans c5⟩
theorem RR.more {w : World} {B B' : Nat} {A : Option Addr} {rs : List Rate} (h : RR w B A rs) (hb : B ≤ B') : RR w B' A rs := by
  refine ⟨h.1, fun hne => ?_⟩
  obtain ⟨b, off, rfl, hlt, hc⟩ := h.2 hne
  exact ⟨b, off, rfl, by omega, hc⟩

def conv (s n d : Int) : Prop := 1099511627776 < s * n / d
/-- the part that a conversion asks for -/
theorem part_big (s n d : Int) (w : World) (s0 : 0 ≤ s) (s1 : s ≤ 1099511627776) (n0 : 1 ≤ n) (n1 : n ≤ 1073741824) (d0 : 1 ≤ d) (d1 : d ≤ 1073741824) (h : conv s n d) :
    Calls Try.prog 18 #[.int .i64 s, .int .i64 n, .int .i64 d] w fun e w' => e = .returned (.tuple #[.int .i64 0, .int .i64 0, .bool false]) ∧ Below w.heap.size w w' := by
  have hp := part_any s.toNat n.toNat d.toNat w (by omega) (by omega) (by omega) (by omega)
  rw [Int.toNat_of_nonneg s0, Int.toNat_of_nonneg (by omega), Int.toNat_of_nonneg (by omega)] at hp
  have hq : ((s.toNat * n.toNat / d.toNat : Nat) : Int) = s * n / d := by
    rw [Int.natCast_ediv, Int.natCast_mul, Int.toNat_of_nonneg s0, Int.toNat_of_nonneg (by omega), Int.toNat_of_nonneg (by omega)]
  unfold conv at h
  rw [← hq] at h
  unfold partV partR partB at hp
  rw [if_pos (by omega), if_pos (by omega), decide_eq_true (by omega)] at hp
  refine hp.mono ?_
  rintro e w' ⟨rfl, m, rfl⟩
  exact ⟨rfl, below_drewN (Below.refl _ _) _⟩
theorem part_fits (s n d : Int) (w : World) (s0 : 0 ≤ s) (s1 : s ≤ 1099511627776) (n0 : 1 ≤ n) (n1 : n ≤ 1073741824) (d0 : 1 ≤ d) (d1 : d ≤ 1073741824) (h : ¬ conv s n d) :
    Calls Try.prog 18 #[.int .i64 s, .int .i64 n, .int .i64 d] w fun e w' => e = .returned (.tuple #[.int .i64 (s * n / d), .int .i64 (partR s.toNat n.toNat d.toNat), .bool true]) ∧ Below w.heap.size w w' := by
  have hp := part_any s.toNat n.toNat d.toNat w (by omega) (by omega) (by omega) (by omega)
  rw [Int.toNat_of_nonneg s0, Int.toNat_of_nonneg (by omega), Int.toNat_of_nonneg (by omega)] at hp
  have hq : ((s.toNat * n.toNat / d.toNat : Nat) : Int) = s * n / d := by
    rw [Int.natCast_ediv, Int.natCast_mul, Int.toNat_of_nonneg s0, Int.toNat_of_nonneg (by omega), Int.toNat_of_nonneg (by omega)]
  unfold conv at h
  rw [← hq] at h ⊢
  unfold partV partB at hp
  rw [if_neg (by omega), decide_eq_false (by omega)] at hp
  refine hp.mono ?_
  rintro e w' ⟨rfl, m, rfl⟩
  exact ⟨rfl, below_drewN (Below.refl _ _) _⟩

/-- the head of the test, and the rates so far -/
def headOk (rs : List Rate) (s day : Int) : Prop := rs.length ≤ 100 ∧ sumOk s ∧ dayOk day
instance (rs : List Rate) (s day : Int) : Decidable (headOk rs s day) := by unfold headOk; infer_instance
def soFar (rs : List Rate) (s day : Int) (k : Nat) : Prop := headOk rs s day ∧ ∀ r ∈ rs.take k, rOk r

theorem soFar_zero {rs : List Rate} {s day : Int} : soFar rs s day 0 ↔ headOk rs s day := by simp [soFar]
theorem soFar_succ {rs : List Rate} {s day : Int} {k : Nat} {r : Rate} (h : rs[k]? = some r) : soFar rs s day (k + 1) ↔ soFar rs s day k ∧ rOk r := by
  unfold soFar
  rw [List.take_add_one, h]
  simp only [Option.toList, List.mem_append, List.mem_singleton]
  constructor
  · exact fun ⟨a, b⟩ => ⟨⟨a, fun q hq => b q (.inl hq)⟩, b r (.inr rfl)⟩
  · exact fun ⟨⟨a, b⟩, c⟩ => ⟨a, fun q hq => by rcases hq with hq | rfl; exact b q hq; exact c⟩
theorem soFar_all {rs : List Rate} {s day : Int} : soFar rs s day rs.length ↔ cOk rs s day := by
  unfold soFar headOk cOk
  rw [List.take_length]
  exact ⟨fun ⟨⟨a, b, c⟩, d⟩ => ⟨a, b, c, d⟩, fun ⟨a, b, c, d⟩ => ⟨⟨a, b, c⟩, d⟩⟩
theorem within_no {n m : Int} (h : ¬ (0 ≤ n ∧ n ≤ m)) : withinB n m = false := by simp only [withinB, decide_eq_false_iff_not]; exact h

/-- a rate's cells, below a later world -/
theorem RR.at_ {w wr : World} {A : Option Addr} {rs : List Rate} (h : RR w w.heap.size A rs) (hb : Below w.heap.size w wr) {k : Nat} {r : Rate} (hk : rs[k]? = some r) :
    ∃ b off, A = some ⟨b, off, none⟩ ∧ RCell wr b (off + k * 5) r := (h.below hb).cells hk

set_option maxHeartbeats 4000000 in
/-- once bad, always bad -/
theorem convert_head (A : Option Addr) (c : Nat) (rs : List Rate) (s f t day : Int) (w : World) (hr : RR w w.heap.size A rs) (hh : ¬ headOk rs s day) :
    Calls Try.prog 13 #[.slice A rs.length c, .int .i64 s, .int .i64 f, .int .i64 t, .int .i64 day] w fun e w' =>
      e = .returned (.tuple #[.int .i64 (cVal rs s f t day), .int .i64 (cErr rs s f t day)]) ∧ Below w.heap.size w w' := by
  have hbad : ¬ cOk rs s day := fun h => hh ⟨h.1, h.2.1, h.2.2.1⟩
  have Hv := Lib.hid (cVal_bad (f := f) (t := t) hbad).symm
  have He := Lib.hid (cErr_bad (f := f) (t := t) hbad).symm
  clear hbad
  have hlen := hr.1.1
  have Hr := Lib.hid hr
  clear hr
  have h3 : 100 < rs.length ∨ (rs.length ≤ 100 ∧ withinB s 1099511627776 = false) ∨ (rs.length ≤ 100 ∧ withinB s 1099511627776 = true ∧ withinB day 100000 = false) := by
    by_cases h1 : rs.length ≤ 100
    · by_cases h2 : sumOk s
      · exact .inr (.inr ⟨h1, within_yes h2.1 h2.2, within_no fun h => hh ⟨h1, h2, h⟩⟩)
      · exact .inr (.inl ⟨h1, within_no h2⟩)
    · exact .inl (by omega)
  clear hh
  rcases h3 with h1 | ⟨h1, h2⟩ | ⟨h1, h2, h3⟩
  all_goals
    go_enter Try.func13, Try.ntmps13
    go_wp2_with (go_at_call 17; refine (within_any _ _ _).mono ?_; rintro e w' ⟨rfl, rfl⟩)
    go_loopw [12, 14, 34] (fun x _ i wr => ∃ k : Nat, k ≤ rs.length ∧ i = .int .i64 k ∧ x = .bool true ∧ Hid (Below w.heap.size w wr)) (fun _ _ i _ => rs.length - (intOf i).toNat)
    case atStart => exact ⟨0, Nat.zero_le _, rfl, rfl, Below.refl _ _⟩
    case round =>
      obtain ⟨k, hk, rfl, rfl, HB⟩ := hrel
      by_cases hlt : k < rs.length
      · obtain ⟨r, hrk⟩ : ∃ r, rs[k]? = some r := ⟨_, List.getElem?_eq_getElem hlt⟩
        obtain ⟨b, off, rfl, c1, c2, c3, c4, c5⟩ := Hr.out.at_ HB.out hrk
        clear hrk
        go_wp2
        go_roundw
        case rel => exact ⟨k + 1, by omega, by go_num, rfl, HB.out.alloc HB.out.size _⟩
        case measure => simp [intOf]; omega
      · go_wp2
        go_ret2
        exact ⟨ret_two Hv.out He.out, HB.out⟩

theorem rOk_within {r : Rate} (h : rOk r) : withinB (r.n - 1) 1073741823 = true ∧ withinB (r.d - 1) 1073741823 = true :=
  ⟨within_yes (by have := h.1; omega) (by have := h.2.1; omega), within_yes (by have := h.2.2.1; omega) (by have := h.2.2.2; omega)⟩
theorem rBad_within {r : Rate} (hf : RWf r) (h : ¬ rOk r) : withinB (wrap64 (r.n - 1)) 1073741823 = false ∨
    (1 ≤ r.n ∧ r.n ≤ 1073741824 ∧ withinB (r.n - 1) 1073741823 = true ∧ withinB (wrap64 (r.d - 1)) 1073741823 = false) := by
  obtain ⟨f1, f2, f3, f4⟩ := hf
  by_cases h1 : 1 ≤ r.n ∧ r.n ≤ 1073741824
  · refine .inr ⟨h1.1, h1.2, within_yes (by omega) (by omega), within_no fun h2 => h ⟨h1.1, h1.2, ?_, ?_⟩⟩
    all_goals (unfold wrap64 at h2; omega)
  · refine .inl (within_no fun h2 => h1 ?_)
    unfold wrap64 at h2; omega

end Go.Proofs.Ytphbgobdkmjijaa
