/- Walks by the logic of calls, and plain laws. -/
import Derived.Test.YtffffkfcbjobnaaGreatGSd
namespace Go.Gh
open Go Go.Proofs
set_option maxRecDepth 1000000
set_option maxHeartbeats 2000000
set_option linter.unusedSimpArgs false
set_option linter.unusedVariables false
open Go.RowKit


def wordsF (s : ByteArray) : List ByteArray := if s = ⟨#[]⟩ then [] else parts s
theorem wordsF_len (s : ByteArray) : (wordsF s).length ≤ s.size + 1 := by
  unfold wordsF; split
  · simp
  · exact parts_len s
theorem wordsF_str (s : ByteArray) : ∀ x, x ∈ wordsF s → x.size ≤ s.size := by
  have key : ∀ (l : List UInt8) x, x ∈ splitL l → x.length ≤ l.length := by
    intro l
    induction l with
    | nil => intro x h; simp [splitL] at h; subst h; simp
    | cons c l ih =>
      intro x h
      unfold splitL at h
      split at h
      · rcases List.mem_cons.1 h with rfl | h
        · simp
        · have := ih x h; simp; omega
      · split at h
        · rename_i y r e
          rcases List.mem_cons.1 h with rfl | h
          · have := ih y (by rw [e]; simp); simp; omega
          · have := ih x (by rw [e]; simp [h]); simp; omega
        · simp at h; subst h; simp
  intro x h
  unfold wordsF at h
  split at h
  · cases h
  · obtain ⟨y, hy, rfl⟩ := List.mem_map.1 h
    have := key _ y hy
    rw [bs_size] at this
    show y.toArray.size ≤ s.size
    simpa using this
def hasB (d : Dc) (n : Int) : Bool := (decide (checkE d = 0) && decide (0 ≤ n)) && decide (n < d.fields.length)
theorem hasB_at {d : Dc} {n : Int} (h : hasB d n = true) : checkE d = 0 ∧ 0 ≤ n ∧ n < d.fields.length := by
  simp only [hasB, Bool.and_eq_true, decide_eq_true_eq] at h; exact ⟨h.1.1, h.1.2, h.2⟩
def fieldAt (d : Dc) (n : Int) : Fl := d.fields.getD n.toNat default
theorem hasB_mem {d : Dc} {n : Int} (h : hasB d n = true) : fieldAt d n ∈ d.fields := getD_mem (by have := hasB_at h; omega)
theorem hasB_good {d : Dc} {n : Int} (h : hasB d n = true) : Good (fieldAt d n) := (right_of (hasB_at h).1).good _ (hasB_mem h)
def certE (d : Dc) (n : Int) : ByteArray × Bool := if hasB d n = true ∧ sz (fieldAt d n).words = 1 then (textF (fieldAt d n) 0, true) else (⟨#[]⟩, false)
def possF (ws : List ByteArray) (ls : List (List ByteArray)) (i : Nat) : Bool := if i < ws.length then if (ls.getD i default).any fun x => decide (x = ws.getD i default) then possF ws ls (i + 1) else false else true
termination_by ws.length - i
def possV (d : Dc) (n : Int) (t : ByteArray) : Bool := if hasB d n = true then if (wordsF t).length = (fieldAt d n).words.length then possF (wordsF t) (fieldAt d n).words 0 else false else false






def findE (d : Dc) (s : ByteArray) : Int := if checkE d = 0 then findI (fun f => decide (f.name = s)) d.fields 0 else -1

end Go.Gh
