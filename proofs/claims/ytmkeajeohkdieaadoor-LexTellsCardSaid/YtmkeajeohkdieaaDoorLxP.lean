/- Comparing tokens: Same, Like; cut. -/
import Derived.Test.YtmkeajeohkdieaaDoorLxO
import Derived.Laws.StructEq
import Derived.Deep.QuietTactic
import Derived.BigQuiet
import Derived.Outline
namespace Go.Proofs.YtmkeajeohkdieaaDoor
open Go.RowKit Lx
set_option linter.unusedSimpArgs false
set_option linter.unusedVariables false

theorem tok_fields : (Tryd.prog.fieldsOf 32).toList.map (fun f => (f.name == "_", f.type, f.offset)) = [(false, 3, 0), (false, 9, 1), (false, 3, 2), (false, 3, 3)] := by kernel_rfl
theorem tok_struct : Tryd.prog.underlying 32 = some (.struct (Tryd.prog.fieldsOf 32)) := by kernel_rfl
theorem tok_held : Tryd.prog.stoodInHeld 32 = false := by kernel_rfl
theorem tok_parts (r : RTok) (w : World) : (part 3 #[.int .i64 r.kind, .string r.text, .int .i64 r.n, .int .i64 r.pos] 0).run Tryd.prog w = .ok (.int .i64 r.kind) w ∧
    (part 9 #[.int .i64 r.kind, .string r.text, .int .i64 r.n, .int .i64 r.pos] 1).run Tryd.prog w = .ok (.string r.text) w ∧
    (part 3 #[.int .i64 r.kind, .string r.text, .int .i64 r.n, .int .i64 r.pos] 2).run Tryd.prog w = .ok (.int .i64 r.n) w ∧
    (part 3 #[.int .i64 r.kind, .string r.text, .int .i64 r.n, .int .i64 r.pos] 3).run Tryd.prog w = .ok (.int .i64 r.pos) w := by
  refine ⟨?_, ?_, ?_, ?_⟩ <;> kernel_rfl
theorem list_four {α : Type} : ∀ (l : List α), l.length = 4 → ∃ a b c d, l = [a, b, c, d]
  | [a, b, c, d], _ => ⟨a, b, c, d, rfl⟩
  | [], h => by simp at h
  | [_], h => by simp at h
  | [_, _], h => by simp at h
  | [_, _, _], h => by simp at h
  | _ :: _ :: _ :: _ :: _ :: _, h => by simp at h
theorem tok_eqIn (r q : RTok) (w : World) : (Op.equalIn 10000 32 (.agg #[.int .i64 r.kind, .string r.text, .int .i64 r.n, .int .i64 r.pos]) (.agg #[.int .i64 q.kind, .string q.text, .int .i64 q.n, .int .i64 q.pos])).run Tryd.prog w =
    .ok (r.kind == q.kind && (r.text.toList == q.text.toList && (r.n == q.n && r.pos == q.pos))) w := by
  rw [run_equalIn_struct w 9999 _ _ _ tok_struct tok_held]
  obtain ⟨p0, p1, p2, p3⟩ := tok_parts r w
  obtain ⟨q0, q1, q2, q3⟩ := tok_parts q w
  have hf := tok_fields
  generalize (Tryd.prog.fieldsOf 32).toList = fs at *
  obtain ⟨f0, f1, f2, f3, rfl⟩ := list_four fs (by have := congrArg List.length hf; simpa using this)
  · simp only [List.map_cons, List.map_nil, List.cons.injEq, Prod.mk.injEq, and_true, beq_eq_false_iff_ne] at hf
    obtain ⟨⟨a0, b0, c0⟩, ⟨a1, b1, c1⟩, ⟨a2, b2, c2⟩, ⟨a3, b3, c3⟩⟩ := hf
    have i0 := fun (a b : Int) => run_equalIn_int (P := Tryd.prog) w 9998 3 .i64 .i64 a b Tryd.underlying3
    have i1 := fun (a b : ByteArray) => run_equalIn_string (P := Tryd.prog) w 9998 9 a b Tryd.underlying9
    simp only [Nat.reduceAdd] at i0 i1
    cases e0 : (r.kind == q.kind) <;> cases e1 : (r.text.toList == q.text.toList) <;> cases e2 : (r.n == q.n) <;> cases e3 : (r.pos == q.pos) <;>
      simp [Op.eqFields, a0, a1, a2, a3, b0, b1, b2, b3, c0, c1, c2, c3, p0, p1, p2, p3, q0, q1, q2, q3, i0, i1, e0, e1, e2, e3, Sem.run_bind, Sem.run_ite]

theorem tok_neq_same (r : RTok) (w : World) : (binOp .neq 32 (.agg #[.int .i64 r.kind, .string r.text, .int .i64 r.n, .int .i64 r.pos]) (.agg #[.int .i64 r.kind, .string r.text, .int .i64 r.n, .int .i64 r.pos])).run Tryd.prog w = .ok (.bool false) w := by
  rw [run_neq_struct, tok_eqIn]; simp

def Quietly (w w' : World) : Prop := ∃ n, w' = w.drewN n
theorem Quietly.below {w w' : World} (h : Quietly w w') : Below w.heap.size w w' := by
  obtain ⟨n, rfl⟩ := h
  exact below_drewN (Below.refl _ _) _

set_option maxHeartbeats 4000000 in
/-- two lists with the same tokens -/
theorem same_yes (A B : Option Addr) (c d : Nat) (rs : List RTok) (w : World) (ha : Toks w w.heap.size A rs) (hb : Toks w w.heap.size B rs) (hl : rs.length ≤ 4611686018427387904) :
    Calls Tryd.prog 21 #[.slice A rs.length c, .slice B rs.length d] w fun e w' => e = .returned (.bool true) ∧ Quietly w w' := by
  have HA := Lib.hid ha
  have HB := Lib.hid hb
  have hne : ((rs.length : Int) != rs.length) = false := by simp
  clear ha hb
  go_enter Tryd.func21, Tryd.ntmps21
  go_wp2
  go_loopw [5] (fun i wr => ∃ k : Nat, i = .int .i64 k ∧ k ≤ rs.length ∧ ∃ n, wr = w.drewN n) (fun i _ => rs.length - (intOf i).toNat)
  case atStart => exact ⟨0, rfl, by omega, 0, rfl⟩
  case round =>
    obtain ⟨k, rfl, hk, n, rfl⟩ := hrel
    by_cases hlt : k < rs.length
    · obtain ⟨r, hrk⟩ : ∃ r, rs[k]? = some r := ⟨_, List.getElem?_eq_getElem hlt⟩
      obtain ⟨b1, o1, rfl, _, h1⟩ := HA.out.open_ (by omega)
      obtain ⟨b2, o2, rfl, _, h2⟩ := HB.out.open_ (by omega)
      obtain ⟨c0, c1, c2, c3⟩ := Toks.cell h1 hrk
      obtain ⟨d0, d1, d2, d3⟩ := Toks.cell h2 hrk
      have hq := tok_neq_same r
      have h0 : (0 : Int) ≤ k := by omega
      have hlt' : (k : Int) < rs.length := by omega
      clear h1 h2 hrk
      go_wp2
      go_quiet (fail)
      go_wp2
      go_roundw
      case rel => exact ⟨k + 1, by go_num, by omega, _, rfl⟩
      case measure => simp [intOf]; omega
    · go_wp2
      go_ret
      exact ⟨rfl, _, rfl⟩

/-- the same tokens, but for their places -/
def RLike (r q : RTok) : Prop := r.kind = q.kind ∧ r.text = q.text ∧ r.n = q.n

set_option maxHeartbeats 4000000 in
theorem like_yes (A B : Option Addr) (c d : Nat) (rs qs : List RTok) (w : World) (ha : Toks w w.heap.size A rs) (hb : Toks w w.heap.size B qs) (hl : rs.length ≤ 4611686018427387904) (he : rs.length = qs.length)
    (hq : ∀ (i : Nat) r q, rs[i]? = some r → qs[i]? = some q → RLike r q) :
    Calls Tryd.prog 13 #[.slice A rs.length c, .slice B qs.length d] w fun e w' => e = .returned (.bool true) ∧ Quietly w w' := by
  rw [← he]
  have HA := Lib.hid ha
  have HB := Lib.hid hb
  have HE := Lib.hid he
  have HQ := Lib.hid hq
  have hne : ((rs.length : Int) != rs.length) = false := by simp
  clear ha hb he hq
  go_enter Tryd.func13, Tryd.ntmps13
  go_wp2
  go_loopw [5] (fun i wr => ∃ k : Nat, i = .int .i64 k ∧ k ≤ rs.length ∧ ∃ n, wr = w.drewN n) (fun i _ => rs.length - (intOf i).toNat)
  case atStart => exact ⟨0, rfl, by omega, 0, rfl⟩
  case round =>
    obtain ⟨k, rfl, hk, n, rfl⟩ := hrel
    by_cases hlt : k < rs.length
    · obtain ⟨r, hrk⟩ : ∃ r, rs[k]? = some r := ⟨_, List.getElem?_eq_getElem hlt⟩
      obtain ⟨q, hqk⟩ : ∃ q, qs[k]? = some q := ⟨_, List.getElem?_eq_getElem (by have := HE.out; omega)⟩
      obtain ⟨b1, o1, rfl, _, h1⟩ := HA.out.open_ (by omega)
      obtain ⟨b2, o2, rfl, _, h2⟩ := HB.out.open_ (by have := HE.out; omega)
      obtain ⟨c0, c1, c2, c3⟩ := Toks.cell h1 hrk
      obtain ⟨d0, d1, d2, d3⟩ := Toks.cell h2 hqk
      obtain ⟨e0, e1, e2⟩ := HQ.out k r q hrk hqk
      have h0 : (0 : Int) ≤ k := by omega
      have hlt' : (k : Int) < rs.length := by omega
      rw [← e0] at d0
      rw [← e1] at d1
      rw [← e2] at d2
      have k0 : (r.kind != r.kind) = false := by simp
      have k1 : (r.text.toList != r.text.toList) = false := by simp
      have k2 : (r.n != r.n) = false := by simp
      clear h1 h2 hrk hqk e0 e1 e2 c3 d3
      go_wp2
      go_quiet (fail)
      go_wp2
      go_roundw
      case rel => exact ⟨k + 1, by go_num, by omega, _, rfl⟩
      case measure => simp [intOf]; omega
    · go_wp2
      go_ret
      exact ⟨rfl, _, rfl⟩

theorem cut_eq (s : ByteArray) : s.extract 0 (min (s.size : Int) 900).toNat = ⟨((bs s).take 900).toArray⟩ := by
  rw [show (min (s.size : Int) 900).toNat = min s.size 900 by omega, ← str_of_bs (s.extract 0 _), bs_upto]
  congr 2
  rw [← bs_len]
  rcases Nat.le_total (bs s).length 900 with h | h
  · rw [Nat.min_eq_left h, List.take_length, List.take_of_length_le h]
  · rw [Nat.min_eq_right h]

set_option maxHeartbeats 1000000 in
theorem cut_any (s : ByteArray) (w : World) (hs : s.size ≤ 9223372036854775807) :
    Calls Tryd.prog 11 #[.string s] w fun e w' => e = .returned (.string ⟨((bs s).take 900).toArray⟩) ∧ w = w' := by
  go_enter Tryd.func11, Tryd.ntmps11
  go_wp2
  go_ret
  exact ⟨by rw [cut_eq]; rfl, rfl⟩

end Go.Proofs.YtmkeajeohkdieaaDoor
