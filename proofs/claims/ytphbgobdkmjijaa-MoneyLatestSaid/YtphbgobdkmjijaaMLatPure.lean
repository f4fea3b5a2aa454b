/- The plain laws of a further rate. -/
import Derived.Test.YtphbgobdkmjijaaMPure
namespace Go.Proofs.Ytphbgobdkmjijaa.Mo

theorem pick_skip {f t day : Int} {o : Option Rate} {q : Rate} (h : ¬ (q.f = f ∧ q.t = t ∧ q.s ≤ day)) : pick f t day o q = o := by unfold pick; rw [if_neg h]
theorem find_insert {rs : List Rate} {f t day : Int} {q : Rate} (k : Nat) (h : ¬ (q.f = f ∧ q.t = t ∧ q.s ≤ day)) :
    find (rs.take k ++ q :: rs.drop k) f t day = find rs f t day := by
  unfold find
  rw [List.foldl_append, List.foldl_cons, pick_skip h, ← List.foldl_append, List.take_append_drop]

theorem cOk_insert {rs : List Rate} {s day : Int} {q : Rate} (k : Nat) (hq : rOk q) (hl : rs.length ≤ 99) :
    cOk (rs.take k ++ q :: rs.drop k) s day ↔ cOk rs s day := by
  unfold cOk
  have hmem : (∀ r ∈ rs.take k ++ q :: rs.drop k, rOk r) ↔ ∀ r ∈ rs, rOk r := by
    constructor
    · intro h r hr
      rw [← List.take_append_drop k rs, List.mem_append] at hr
      apply h
      rw [List.mem_append, List.mem_cons]
      rcases hr with hr | hr
      · exact .inl hr
      · exact .inr (.inr hr)
    · intro h r hr
      rw [List.mem_append, List.mem_cons] at hr
      rcases hr with hr | rfl | hr
      · exact h r (List.mem_of_mem_take hr)
      · exact hq
      · exact h r (List.mem_of_mem_drop hr)
  rw [hmem]
  have : (rs.take k ++ q :: rs.drop k).length = rs.length + 1 := by simp; omega
  rw [this]
  constructor
  · rintro ⟨_, b⟩; exact ⟨by omega, b⟩
  · rintro ⟨_, b⟩; exact ⟨by omega, b⟩

/-- a rate that is not of the pair, or comes later, changes nothing -/
theorem same_insert {rs : List Rate} {s f t day : Int} {q : Rate} (k : Nat) (hq : rOk q) (hl : rs.length ≤ 99)
    (h : ¬ (q.f = f ∧ q.t = t ∨ q.f = t ∧ q.t = f) ∨ day < q.s) :
    cVal (rs.take k ++ q :: rs.drop k) s f t day = cVal rs s f t day ∧ cErr (rs.take k ++ q :: rs.drop k) s f t day = cErr rs s f t day := by
  have h1 : ¬ (q.f = f ∧ q.t = t ∧ q.s ≤ day) := by rintro ⟨a, b, c⟩; rcases h with h | h; exact h (.inl ⟨a, b⟩); omega
  have h2 : ¬ (q.f = t ∧ q.t = f ∧ q.s ≤ day) := by rintro ⟨a, b, c⟩; rcases h with h | h; exact h (.inr ⟨a, b⟩); omega
  have hw : which (rs.take k ++ q :: rs.drop k) f t day = which rs f t day := by
    unfold which
    rw [find_insert k h1, find_insert k h2]
  unfold cVal cErr
  simp only [cOk_insert k hq hl, hw, and_self]

theorem foldl_keep {f t day : Int} : ∀ (rs : List Rate) (q : Rate), q.s = day → rs.foldl (pick f t day) (some q) = some q := by
  intro rs
  induction rs with
  | nil => intro q _; rfl
  | cons r l ih =>
    intro q hq
    rw [List.foldl_cons]
    have : pick f t day (some q) r = some q := by
      unfold pick
      split
      · rename_i h
        simp only
        rw [if_neg (by omega)]
      · rfl
    rw [this]; exact ih q hq
theorem find_own {rs : List Rate} {f t day : Int} {q : Rate} (h1 : q.f = f) (h2 : q.t = t) (h3 : q.s = day) : find (q :: rs) f t day = some q := by
  unfold find
  rw [List.foldl_cons]
  have : pick f t day none q = some q := by unfold pick; rw [if_pos ⟨h1, h2, by omega⟩]
  rw [this]; exact foldl_keep rs q h3

theorem cErr_arg {rs : List Rate} {s f t day : Int} : cErr rs s f t day = 1 ↔ ¬ cOk rs s day := by
  unfold cErr
  split
  · rename_i h
    constructor
    · intro h1
      split at h1
      · cases h1
      · cases hw : which rs f t day with
        | none => rw [hw] at h1; cases h1
        | some p => rw [hw] at h1; simp only [capE] at h1; split at h1 <;> cases h1
    · intro h1; exact absurd h h1
  · rename_i h; simp [h]

/-- a rate of the pair and of the day, ahead of all others, decides alone -/
theorem own_alone {rs : List Rate} {s f t day : Int} {q : Rate} (hq : rOk q) (hl : rs.length ≤ 99) (h1 : q.f = f) (h2 : q.t = t) (h3 : q.s = day) (he : cErr rs s f t day ≠ 1) :
    cVal (q :: rs) s f t day = cVal [q] s f t day ∧ cErr (q :: rs) s f t day = cErr [q] s f t day := by
  have hc : cOk rs s day := by
    by_cases h : cOk rs s day
    · exact h
    · exact absurd (cErr_arg.2 h) he
  obtain ⟨_, a, b, c⟩ := hc
  have k1 : cOk (q :: rs) s day := ⟨by simp; omega, a, b, fun r hr => by rw [List.mem_cons] at hr; rcases hr with rfl | hr; exact hq; exact c r hr⟩
  have k2 : cOk [q] s day := ⟨by simp, a, b, fun r hr => by rw [List.mem_singleton] at hr; subst hr; exact hq⟩
  have w1 : which (q :: rs) f t day = some (q.n, q.d) := by unfold which; rw [find_own h1 h2 h3]
  have w2 : which [q] f t day = some (q.n, q.d) := by unfold which; rw [find_own h1 h2 h3]
  unfold cVal cErr
  rw [if_pos k1, if_pos k2, if_pos k1, if_pos k2, w1, w2]
  exact ⟨rfl, rfl⟩
theorem own_arg {rs : List Rate} {s f t day : Int} {q : Rate} (he : cErr rs s f t day = 1) (hl : rs.length ≤ 99) : cVal (q :: rs) s f t day = 0 ∧ cErr (q :: rs) s f t day = 1 := by
  have h := cErr_arg.1 he
  have h' : ¬ cOk (q :: rs) s day := by
    rintro ⟨a, b, c, d⟩
    exact h ⟨by omega, b, c, fun r hr => d r (List.mem_cons_of_mem _ hr)⟩
  unfold cVal cErr
  rw [if_neg h', if_neg h']
  exact ⟨rfl, rfl⟩

end Go.Proofs.Ytphbgobdkmjijaa.Mo
