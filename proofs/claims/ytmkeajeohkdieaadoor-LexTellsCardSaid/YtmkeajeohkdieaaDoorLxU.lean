/- The reference's quoted. -/
import Derived.Test.YtmkeajeohkdieaaDoorLxT
import Derived.Outline
namespace Go.Proofs.YtmkeajeohkdieaaDoor
open Go.RowKit Lx
set_option linter.unusedSimpArgs false
set_option linter.unusedVariables false

/-- as unq, but each byte may stand for itself -/
def unqR : List UInt8 → Option (List UInt8 × Nat)
  | [] => none
  | c :: r =>
    if c == 34 then some ([], 1)
    else if c == 92 then
      match r with
      | [] => none
      | d :: r' => if d == 34 || d == 92 then (unqR r').map (fun p => (d :: p.1, p.2 + 2)) else none
    else (unqR r).map (fun p => (c :: p.1, p.2 + 1))
def okP (p : List UInt8 × Nat) : Option (List UInt8 × Nat) := if p.1.all plain then some p else none
theorem unq_eq : ∀ (k : Nat) (l : List UInt8), l.length ≤ k → unq l = (unqR l).bind okP := by
  intro k
  induction k with
  | zero =>
    intro l hl
    have : l = [] := List.eq_nil_of_length_eq_zero (by omega)
    subst this; rfl
  | succ k ih =>
    intro l hl
    match l, hl with
    | [], _ => rfl
    | c :: r, hl =>
      simp at hl
      unfold unq unqR
      split
      · rfl
      · split
        · match r, hl with
          | [], _ => rfl
          | d :: r', hl =>
            simp at hl
            simp only
            split
            · rename_i hd
              rw [ih r' (by omega)]
              cases unqR r' with
              | none => rfl
              | some p =>
                have hpl : plain d = true := by simp at hd; rcases hd with rfl | rfl <;> decide
                simp only [Option.map_some, Option.bind_some, okP, List.all_cons, hpl, Bool.true_and]
                split <;> simp
            · rfl
        · rw [ih r (by omega)]
          cases hp : plain c with
          | true =>
            rw [if_pos rfl]
            cases unqR r with
            | none => rfl
            | some p =>
              simp only [Option.map_some, Option.bind_some, okP, List.all_cons, hp, Bool.true_and]
              split <;> simp
          | false =>
            rw [if_neg (by decide)]
            cases unqR r with
            | none => rfl
            | some p =>
              simp only [Option.map_some, Option.bind_some, okP, List.all_cons, hp, Bool.false_and]
              simp

/-- what the reference's quoted gives at an offset -/
def rqOk (l : List UInt8) (a : Nat) : Bool := match unqR (l.drop (a + 1)) with | some (v, _) => valueOk v | none => false
def rqV (l : List UInt8) (a : Nat) : List UInt8 := match unqR (l.drop (a + 1)) with | some (v, _) => if valueOk v then v else [] | none => []
def rqN (l : List UInt8) (a : Nat) : Nat := match unqR (l.drop (a + 1)) with | some (v, n) => if valueOk v then a + 1 + n else 0 | none => 0
theorem rq_none {l : List UInt8} {a : Nat} (h : unqR (l.drop (a + 1)) = none) : rqOk l a = false ∧ rqV l a = [] ∧ rqN l a = 0 := by
  unfold rqOk rqV rqN; rw [h]; exact ⟨rfl, rfl, rfl⟩
theorem rq_some {l : List UInt8} {a n : Nat} {v : List UInt8} (h : unqR (l.drop (a + 1)) = some (v, n)) : rqOk l a = valueOk v ∧ rqV l a = (if valueOk v then v else []) ∧ rqN l a = (if valueOk v then a + 1 + n else 0) := by
  unfold rqOk rqV rqN; rw [h]; exact ⟨rfl, rfl, rfl⟩

def RqAt (l : List UInt8) (a n : Nat) (v : List UInt8) : Prop := a + 1 ≤ n ∧ v.length ≤ n ∧ unqR (l.drop (a + 1)) = (unqR (l.drop n)).map (fun p => (v ++ p.1, n - (a + 1) + p.2))
theorem rq_start (l : List UInt8) (a : Nat) : RqAt l a (a + 1) [] := by
  refine ⟨by omega, by simp, ?_⟩
  cases unqR (l.drop (a + 1)) with
  | none => rfl
  | some p => simp
theorem rq_stop {l : List UInt8} {a n : Nat} {v : List UInt8} (h : RqAt l a n v) (h0 : unqR (l.drop n) = none) : unqR (l.drop (a + 1)) = none := by rw [h.2.2, h0]; rfl
theorem rq_end {l : List UInt8} {a n : Nat} {v : List UInt8} (h : RqAt l a n v) (h0 : l[n]? = some 34) : unqR (l.drop (a + 1)) = some (v, n - (a + 1) + 1) := by
  rw [h.2.2, drop_at h0]
  unfold unqR
  rw [if_pos (by decide)]
  simp
theorem rq_plain {l : List UInt8} {a n : Nat} {v : List UInt8} {c : UInt8} (h : RqAt l a n v) (h0 : l[n]? = some c) (h1 : c ≠ 34) (h2 : c ≠ 92) : RqAt l a (n + 1) (v ++ [c]) := by
  have hn := h.1
  refine ⟨by omega, by have := h.2.1; simp; omega, ?_⟩
  rw [h.2.2, drop_at h0]
  conv => lhs; unfold unqR
  rw [if_neg (by simp [h1]), if_neg (by simp [h2])]
  cases unqR (l.drop (n + 1)) with
  | none => rfl
  | some p => simp; omega
theorem rq_esc {l : List UInt8} {a n : Nat} {v : List UInt8} {d : UInt8} (h : RqAt l a n v) (h0 : l[n]? = some 92) (h1 : l[n + 1]? = some d) (hd : d = 34 ∨ d = 92) : RqAt l a (n + 2) (v ++ [d]) := by
  have hn := h.1
  refine ⟨by omega, by have := h.2.1; simp; omega, ?_⟩
  rw [h.2.2, drop_at h0, drop_at h1]
  conv => lhs; unfold unqR
  rw [if_neg (by decide), if_pos (by decide)]
  simp only
  rw [if_pos (by rcases hd with rfl | rfl <;> rfl)]
  cases unqR (l.drop (n + 1 + 1)) with
  | none => rfl
  | some p => simp; omega
theorem unqR_out {l : List UInt8} {n : Nat} (h : l.length ≤ n) : unqR (l.drop n) = none := by rw [List.drop_eq_nil_iff.2 h]; rfl
theorem unqR_esc {l : List UInt8} {n : Nat} (h0 : l[n]? = some 92) (h : l[n + 1]? = none ∨ ∃ d, l[n + 1]? = some d ∧ d ≠ 34 ∧ d ≠ 92) : unqR (l.drop n) = none := by
  rw [drop_at h0]
  unfold unqR
  rw [if_neg (by decide), if_pos (by decide)]
  rcases h with h | ⟨d, h, h1, h2⟩
  · rw [List.getElem?_eq_none_iff] at h
    rw [List.drop_eq_nil_iff.2 h]
  · rw [drop_at h]
    simp only
    rw [if_neg (by simp [h1, h2])]

def RqEnd (W : World) (l : List UInt8) (a : Nat) (e : Ending) (w' : World) : Prop :=
  e = .returned (.tuple #[.string ⟨(rqV l a).toArray⟩, .int .i64 (rqN l a : Nat), .bool (rqOk l a)]) ∧ W = w'
theorem rq_fails {W : World} {l : List UInt8} {a : Nat} (h : rqOk l a = false ∧ rqV l a = [] ∧ rqN l a = 0) : RqEnd W l a (.returned (.tuple #[.string ⟨#[]⟩, .int .i64 0, .bool false])) W := by
  unfold RqEnd; rw [h.1, h.2.1, h.2.2]; exact ⟨rfl, rfl⟩
theorem rq_gives {W : World} {l v : List UInt8} {a n : Nat} (h : unqR (l.drop (a + 1)) = some (v, n - (a + 1) + 1)) (hv : valueOk v = true) (hn : a + 1 ≤ n) : RqEnd W l a (.returned (.tuple #[.string ⟨v.toArray⟩, .int .i64 ((n : Int) + 1), .bool true])) W := by
  obtain ⟨h1, h2, h3⟩ := rq_some h
  unfold RqEnd; rw [h1, h2, h3, hv, if_pos rfl, if_pos rfl]
  refine ⟨?_, rfl⟩
  rw [show ((a + 1 + (n - (a + 1) + 1) : Nat) : Int) = (n : Int) + 1 by omega]

set_option maxHeartbeats 4000000 in
theorem refQuoted_any (s : ByteArray) (a : Nat) (w : World) (hs : s.size ≤ 100000) (ha : a < s.size) :
    Calls Tryd.prog 45 #[.string s, .int .i64 a] w (RqEnd w (bs s) a) := by
  have HL := Lib.hid (bs_len s)
  have HQ := Lib.hid (rq_start (bs s) a)
  go_enter Tryd.func45, Tryd.ntmps45
  go_wp2_with fail
  go_loop [7, 8] (fun v i => ∃ (n : Nat) (u : ByteArray), v = .string u ∧ i = .int .i64 n ∧ n ≤ s.size + 1 ∧ a + 1 ≤ n ∧ u.size ≤ n ∧ Hid (RqAt (bs s) a n (bs u))) (fun _ i => s.size + 1 - (intOf i).toNat)
  case atStart => exact ⟨a + 1, _, rfl, by go_num, by omega, by omega, by simp [ByteArray.size], HQ.out⟩
  case round =>
    obtain ⟨n, u, rfl, rfl, hn, han, hu, HA⟩ := hrel
    by_cases hlt : n < s.size
    · have hg := bs_get s n hlt
      have ho := bs_one s n hlt
      have hoz : (s.extract n (n + 1)).size = 1 := by rw [ho, size_mk']; rfl
      have hub : bs (u ++ s.extract n (n + 1)) = bs u ++ [s[n]] := by rw [bs_append, ho]; rfl
      have HUB := Lib.hid hub
      clear ho hub
      cases b1 : ((s[n].toNat : Int) == 34) with
      | true =>
        have hq : (bs s)[n]? = some 34 := by
          rw [is_byte s[n] 34 34 rfl] at b1
          rw [hg]; simp at b1; rw [b1]
        have HE := Lib.hid (rq_end HA.out hq)
        have b1' : ((s[n].toNat : Int) != 34) = false := by simp at b1 ⊢; exact b1
        have hval := fun wx => refValue_any u wx (by omega)
        clear hg hq hoz
        cases hv : valueOk (bs u) with
        | true =>
          rw [hv] at hval
          have HV := Lib.hid hval
          have HVV := Lib.hid hv
          have HSB := Lib.hid (str_of_bs u)
          clear hval hv
          go_wp2_with (go_at_call 35; refine (HV.out _).mono ?_; rintro e w' ⟨rfl, rfl⟩)
          go_ret3
          have := rq_gives (W := w) HE.out HVV.out han
          rw [HSB.out] at this
          exact this
        | false =>
          rw [hv] at hval
          have HV := Lib.hid hval
          obtain ⟨k1, k2, k3⟩ := rq_some HE.out
          rw [hv] at k1 k2 k3
          have HX := Lib.hid (show rqOk (bs s) a = false ∧ rqV (bs s) a = [] ∧ rqN (bs s) a = 0 from ⟨k1, k2, k3⟩)
          clear hval hv k1 k2 k3
          go_wp2_with (go_at_call 35; refine (HV.out _).mono ?_; rintro e w' ⟨rfl, rfl⟩)
          go_ret3
          exact rq_fails HX.out
      | false =>
        have hn34 : s[n] ≠ 34 := by
          rw [is_byte s[n] 34 34 rfl] at b1
          simpa using b1
        have b1' : ((s[n].toNat : Int) != 34) = true := by simp at b1 ⊢; exact b1
        cases b2 : ((s[n].toNat : Int) == 92) with
        | false =>
          have hn92 : s[n] ≠ 92 := by
            rw [is_byte s[n] 92 92 rfl] at b2
            simpa using b2
          have HN := Lib.hid (rq_plain HA.out hg hn34 hn92)
          clear hg hn34 hn92
          go_wp2
          go_round
          case rel => exact ⟨n + 1, _, rfl, by go_num, by omega, by omega, by simp only [ByteArray.size_append, hoz]; omega, by rw [HUB.out]; exact HN⟩
          case measure => simp [intOf]; omega
        | true =>
          have hq : (bs s)[n]? = some 92 := by
            rw [is_byte s[n] 92 92 rfl] at b2
            rw [hg]; simp at b2; rw [b2]
          clear hoz
          by_cases hlt1 : n + 1 < s.size
          · have hg1 := bs_get s (n + 1) hlt1
            have ho1 := bs_one s (n + 1) hlt1
            have hoz1 : (s.extract (n + 1) (n + 1 + 1)).size = 1 := by rw [ho1, size_mk']; rfl
            have hub1 : bs (u ++ s.extract (n + 1) (n + 1 + 1)) = bs u ++ [s[n + 1]] := by rw [bs_append, ho1]; rfl
            have HUB1 := Lib.hid hub1
            clear ho1 hub1
            cases b3 : ((s[n + 1].toNat : Int) == 34) with
            | true =>
              have hd : s[n + 1] = 34 := by rw [is_byte s[n + 1] 34 34 rfl] at b3; simpa using b3
              have HN := Lib.hid (rq_esc HA.out hq hg1 (.inl hd))
              have b3' : ((s[n + 1].toNat : Int) != 34) = false := by simp at b3 ⊢; exact b3
              clear hg hq hg1 hd
              go_wp2
              go_round
              case rel => exact ⟨n + 2, _, rfl, by go_num, by omega, by omega, by simp only [ByteArray.size_append, hoz1]; omega, by rw [HUB1.out]; exact HN⟩
              case measure => simp [intOf]; omega
            | false =>
              have b3' : ((s[n + 1].toNat : Int) != 34) = true := by simp at b3 ⊢; exact b3
              cases b4 : ((s[n + 1].toNat : Int) == 92) with
              | true =>
                have hd : s[n + 1] = 92 := by rw [is_byte s[n + 1] 92 92 rfl] at b4; simpa using b4
                have HN := Lib.hid (rq_esc HA.out hq hg1 (.inr hd))
                have b4' : ((s[n + 1].toNat : Int) != 92) = false := by simp at b4 ⊢; exact b4
                clear hg hq hg1 hd
                go_wp2
                go_round
                case rel => exact ⟨n + 2, _, rfl, by go_num, by omega, by omega, by simp only [ByteArray.size_append, hoz1]; omega, by rw [HUB1.out]; exact HN⟩
                case measure => simp [intOf]; omega
              | false =>
                have b4' : ((s[n + 1].toNat : Int) != 92) = true := by simp at b4 ⊢; exact b4
                have HE := Lib.hid (rq_none (rq_stop HA.out (unqR_esc hq (.inr ⟨_, hg1, by
                  rw [is_byte s[n + 1] 34 34 rfl] at b3; simpa using b3, by
                  rw [is_byte s[n + 1] 92 92 rfl] at b4; simpa using b4⟩))))
                clear hg hq hg1 hoz1
                go_wp2
                go_ret3
                exact rq_fails HE.out
          · have HE := Lib.hid (rq_none (rq_stop HA.out (unqR_esc hq (.inl (List.getElem?_eq_none_iff.2 (by rw [HL.out]; omega))))))
            clear hg hq
            go_wp2
            go_ret3
            exact rq_fails HE.out
    · have HE := Lib.hid (rq_none (rq_stop HA.out (unqR_out (by rw [HL.out]; omega))))
      go_wp2
      go_ret3
      exact rq_fails HE.out

end Go.Proofs.YtmkeajeohkdieaaDoor
