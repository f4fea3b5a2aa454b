/- A slice of rates as a row of cells, and back. -/
import Derived.Test.YtphbgobdkmjijaaMFrom
import Derived.Test.YtphbgobdkmjijaaWords
namespace Go.Proofs.Ytphbgobdkmjijaa
open Go.RowKit Mo

def rcl (r : Rate) : List Value := [.int .i64 r.f, .int .i64 r.t, .int .i64 r.n, .int .i64 r.d, .int .i64 r.s]
def flat : List Rate → List Value
  | [] => []
  | r :: rs => rcl r ++ flat rs
theorem flat_len : ∀ rs : List Rate, (flat rs).length = rs.length * 5 := by
  intro rs
  induction rs with
  | nil => rfl
  | cons r rs ih => simp [flat, rcl, ih]; omega
theorem flat_append (a b : List Rate) : flat (a ++ b) = flat a ++ flat b := by
  induction a with
  | nil => rfl
  | cons r a ih => simp [flat, ih]
theorem flat_drop (rs : List Rate) (k : Nat) : flat (rs.drop k) = (flat rs).drop (k * 5) := by
  induction rs generalizing k with
  | nil => simp [flat]
  | cons r rs ih =>
    match k with
    | 0 => simp
    | k + 1 =>
      rw [List.drop_succ_cons, ih, flat, show (k + 1) * 5 = 5 + k * 5 by omega, ← List.drop_drop]
      congr 1
theorem flat_take (rs : List Rate) (k : Nat) : flat (rs.take k) = (flat rs).take (k * 5) := by
  induction rs generalizing k with
  | nil => simp [flat]
  | cons r rs ih =>
    match k with
    | 0 => simp [flat]
    | k + 1 =>
      have h5 : (rcl r).length = 5 := rfl
      rw [List.take_succ_cons, flat, flat, ih, List.take_append, h5, show (k + 1) * 5 - 5 = k * 5 by omega, List.take_of_length_le (l := rcl r) (by rw [h5]; omega)]
theorem flat_one (rs : List Rate) (i : Nat) (r : Rate) (h : rs[i]? = some r) (m : Nat) (hm : m < 5) : (flat rs)[i * 5 + m]? = (rcl r)[m]? := by
  have h1 := flat_drop rs i
  have h2 : rs.drop i = r :: rs.drop (i + 1) := by
    obtain ⟨hl, rfl⟩ := List.getElem?_eq_some_iff.1 h
    exact List.drop_eq_getElem_cons hl
  rw [← List.getElem?_drop, ← h1, h2, flat, List.getElem?_append_left (by simp [rcl]; omega)]

theorem rcl_cells {w : World} {b o : Nat} {r : Rate} (h : RCell w b o r) : ∀ m u, (rcl r)[m]? = some u → w.cell? ⟨b, o + m, none⟩ = some u := by
  obtain ⟨c0, c1, c2, c3, c4⟩ := h
  intro m u hm
  match m with
  | 0 => simp [rcl] at hm; rw [← hm]; exact c0
  | 1 => simp [rcl] at hm; rw [← hm]; exact c1
  | 2 => simp [rcl] at hm; rw [← hm]; exact c2
  | 3 => simp [rcl] at hm; rw [← hm]; exact c3
  | 4 => simp [rcl] at hm; rw [← hm]; exact c4
  | m + 5 => simp [rcl] at hm

theorem RR.reads {w : World} {B : Nat} {A : Option Addr} {rs : List Rate} (h : RR w B A rs) : Reads w B 5 A rs.length (flat rs) := by
  refine ⟨flat_len rs, fun hn => ?_⟩
  have hne : rs ≠ [] := by rintro rfl; simp at hn
  obtain ⟨b, off, rfl, hb, hc⟩ := h.2 hne
  refine ⟨_, rfl, hb, fun j u hu => ?_⟩
  have hj : j < rs.length * 5 := by
    have := (List.getElem?_eq_some_iff.1 hu).1
    rw [flat_len] at this; exact this
  obtain ⟨r, hr⟩ : ∃ r, rs[j / 5]? = some r := ⟨_, List.getElem?_eq_getElem (by omega)⟩
  have e : j = j / 5 * 5 + j % 5 := by omega
  rw [e, flat_one rs _ r hr _ (Nat.mod_lt _ (by omega))] at hu
  have := rcl_cells (hc _ r hr) _ u hu
  rw [e]
  unfold Addr.add
  split
  · rename_i h0
    rw [Nat.add_assoc, h0] at this; exact this
  · simp only; rw [← Nat.add_assoc]; exact this

theorem reads_take {w : World} {B n k : Nat} {A : Option Addr} {rs : List Rate} (h : Reads w B 5 A n (flat rs)) (hk : k ≤ n) (hn : rs.length = n) : Reads w B 5 A k (flat (rs.take k)) := by
  refine ⟨by rw [flat_len, List.length_take]; omega, fun h0 => ?_⟩
  obtain ⟨ad, e, hb, hc⟩ := h.2 (by omega)
  refine ⟨ad, e, hb, fun j u hu => hc j u ?_⟩
  rw [flat_take, List.getElem?_take] at hu
  split at hu
  · exact hu
  · cases hu

/-- a row of the call's own, as rates -/
theorem own_rates {w : World} {base c : Nat} {A : Option Addr} {rs : List Rate} (h : w.ownsRow base 36 5 (.slice A rs.length c) rs.length (flat rs)) (hl : rs.length ≤ 9223372036854775807) (hw : ∀ r ∈ rs, RWf r) : RR w w.heap.size A rs := by
  refine ⟨⟨hl, hw⟩, fun hne => ?_⟩
  have hpos : 0 < rs.length := List.length_pos_iff.2 hne
  obtain ⟨ad, e, hb, hc⟩ := (Reads.of_own h).2 hpos
  obtain ⟨g, cap, hv, _, hlt⟩ := h.form hpos
  have hA : A = some ⟨g, 0, none⟩ := by injection hv
  refine ⟨g, 0, hA, hlt, fun i r hr => ?_⟩
  rw [hA] at e
  injection e with e
  subst e
  have key : ∀ m, m < 5 → w.cell? ⟨g, 0 + i * 5 + m, none⟩ = (rcl r)[m]? := by
    intro m hm
    have hi := (List.getElem?_eq_some_iff.1 hr).1
    have h1 := flat_one rs i r hr m hm
    have h2 : (rcl r)[m]? = some ((rcl r)[m]'(by simp [rcl]; omega)) := List.getElem?_eq_getElem _
    rw [h2] at h1 ⊢
    have := hc _ _ h1
    rw [← this]
    unfold Addr.add
    split
    · rename_i h0; rw [Nat.add_assoc, h0]
    · simp
  exact ⟨key 0 (by omega), key 1 (by omega), key 2 (by omega), key 3 (by omega), key 4 (by omega)⟩

end Go.Proofs.Ytphbgobdkmjijaa
