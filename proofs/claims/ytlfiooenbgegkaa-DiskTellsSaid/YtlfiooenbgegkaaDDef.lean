/- Layer 7, plain: what a disk is, and what its calls give. -/
namespace Go.Proofs.Ytlfiooenbgegkaa
namespace Ds

structure Wr where
  at_ : Int
  text : ByteArray
structure Dk where
  secs : List ByteArray
  pend : List Wr
  left : Int
  down : Bool

def okS (s : ByteArray) : Bool := decide (s.size = 16)
def okW (n : Nat) (w : Wr) : Bool := decide (0 ≤ w.at_) && decide (w.at_ < n) && decide (w.text.size = 16)
def headB (d : Dk) : Bool := decide (1 ≤ d.secs.length) && decide (d.secs.length ≤ 512) && decide (d.pend.length ≤ 512) && decide (-1 ≤ d.left) && decide (d.left ≤ 512)
def downB (d : Dk) : Bool := !d.down || (decide (d.pend.length = 0) && decide (d.left = -1))
def rightB (d : Dk) : Bool := headB d && downB d && d.secs.all okS && d.pend.all (okW d.secs.length)
def checkE (d : Dk) : Int := if rightB d = true then 0 else 1
def upE (d : Dk) : Int := if rightB d = true then (if d.down = true then 8 else 0) else 1
def zeros (n : Nat) : ByteArray := ⟨Array.replicate n 0⟩
def nilD : Dk := ⟨[], [], 0, false⟩
def newE (n : Int) : Int := if 1 ≤ n ∧ n ≤ 512 then 0 else 1
def newD (n : Int) : Dk := if 1 ≤ n ∧ n ≤ 512 then ⟨List.replicate n.toNat (zeros 16), [], -1, false⟩ else nilD
/-- what the writes left at a sector -/
def lastAt (k : Int) (s : ByteArray) (ps : List Wr) : ByteArray := ps.foldl (fun a w => if w.at_ = k then w.text else a) s
def inB (d : Dk) (k : Int) : Bool := decide (0 ≤ k) && decide (k < d.secs.length)
def readE (d : Dk) (k : Int) : Int := if upE d = 0 then (if inB d k = true then 0 else 1) else upE d
def readV (d : Dk) (k : Int) : ByteArray := if readE d k = 0 then lastAt k (d.secs.getD k.toNat ByteArray.empty) d.pend else ByteArray.empty
def pad (s : ByteArray) : ByteArray := s ++ zeros (16 - s.size)
def writeE (d : Dk) (k : Int) (s : ByteArray) : Int := if upE d = 0 then (if inB d k = true ∧ s.size ≤ 16 then (if d.pend.length = 512 then 6 else 0) else 1) else upE d
def writeD (d : Dk) (k : Int) (s : ByteArray) : Dk := if writeE d k s = 0 then { d with pend := d.pend ++ [⟨k, pad s⟩] } else nilD
def put (l : List ByteArray) (w : Wr) : List ByteArray := l.set w.at_.toNat w.text
def puts (l : List ByteArray) (ps : List Wr) : List ByteArray := ps.foldl put l
def half (s t : ByteArray) : ByteArray := s.extract 0 8 ++ t.extract 8 t.size
def tear (l : List ByteArray) (w : Wr) : List ByteArray := l.set w.at_.toNat (half w.text (l.getD w.at_.toNat ByteArray.empty))
def allB (d : Dk) : Bool := decide (d.left = -1) || decide ((d.pend.length : Int) ≤ d.left)
def flushE (d : Dk) : Int := if upE d = 0 then (if allB d = true then 0 else 8) else upE d
def flushed (d : Dk) : Dk := ⟨puts d.secs d.pend, [], if 0 ≤ d.left then d.left - d.pend.length else d.left, false⟩
def torn (d : Dk) : Dk := ⟨tear (puts d.secs (d.pend.take d.left.toNat)) (d.pend.getD d.left.toNat ⟨0, ByteArray.empty⟩), [], -1, true⟩
def flushD (d : Dk) : Dk := if upE d = 0 then (if allB d = true then flushed d else torn d) else nilD
def armE (d : Dk) (n : Int) : Int := if upE d = 0 then (if 0 ≤ n ∧ n ≤ 512 then 0 else 1) else upE d
def armD (d : Dk) (n : Int) : Dk := if armE d n = 0 then { d with left := n } else nilD
def cutD (d : Dk) : Dk := if upE d = 0 then ⟨d.secs, [], -1, true⟩ else nilD
def startE (d : Dk) : Int := if rightB d = true then (if d.down = true then 0 else 7) else 1
def startD (d : Dk) : Dk := if startE d = 0 then { d with down := false } else nilD

theorem lastAt_snoc (k : Int) (s : ByteArray) (ps : List Wr) (w : Wr) : lastAt k s (ps ++ [w]) = if w.at_ = k then w.text else lastAt k s ps := by simp [lastAt]
theorem puts_snoc (l : List ByteArray) (ps : List Wr) (w : Wr) : puts l (ps ++ [w]) = put (puts l ps) w := by simp [puts]
theorem puts_len (ps : List Wr) : ∀ l : List ByteArray, (puts l ps).length = l.length := by
  induction ps with
  | nil => intro l; rfl
  | cons w ps ih => intro l; show (puts (put l w) ps).length = _; rw [ih]; simp [put]
theorem tear_len (l : List ByteArray) (w : Wr) : (tear l w).length = l.length := by simp [tear]

theorem right_head {d : Dk} (h : rightB d = true) : 1 ≤ d.secs.length ∧ d.secs.length ≤ 512 ∧ d.pend.length ≤ 512 ∧ -1 ≤ d.left ∧ d.left ≤ 512 := by
  simp only [rightB, headB, Bool.and_eq_true, decide_eq_true_eq] at h
  omega
theorem right_down {d : Dk} (h : rightB d = true) (hd : d.down = true) : d.pend.length = 0 ∧ d.left = -1 := by
  simp only [rightB, downB, hd, Bool.and_eq_true, Bool.or_eq_true, Bool.not_eq_true', decide_eq_true_eq] at h
  rcases h.1.1.2 with h | h
  · simp at h
  · exact h
theorem right_sec {d : Dk} (h : rightB d = true) {i : Nat} {s : ByteArray} (hs : d.secs[i]? = some s) : s.size = 16 := by
  simp only [rightB, Bool.and_eq_true, List.all_eq_true] at h
  simpa [okS] using h.1.2 s (List.mem_of_getElem? hs)
theorem right_wr {d : Dk} (h : rightB d = true) {w : Wr} (hw : w ∈ d.pend) : 0 ≤ w.at_ ∧ w.at_ < d.secs.length ∧ w.text.size = 16 := by
  simp only [rightB, Bool.and_eq_true, List.all_eq_true] at h
  have := h.2 w hw
  simp only [okW, Bool.and_eq_true, decide_eq_true_eq] at this
  exact ⟨this.1.1, this.1.2, this.2⟩
theorem upE_zero {d : Dk} : upE d = 0 ↔ rightB d = true ∧ d.down = false := by
  unfold upE
  by_cases h : rightB d = true
  · rw [if_pos h]
    cases hd : d.down <;> simp [h]
  · rw [if_neg h]; simp [h]
end Ds
end Go.Proofs.Ytlfiooenbgegkaa
