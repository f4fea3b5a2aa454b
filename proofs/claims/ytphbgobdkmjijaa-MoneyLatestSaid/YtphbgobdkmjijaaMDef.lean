/- What money's functions compute, in plain words. -/
import Derived.Lib.Hide
namespace Go.Proofs.Ytphbgobdkmjijaa.Mo

structure Rate where
  f : Int
  t : Int
  n : Int
  d : Int
  s : Int

def sumOk (s : Int) : Prop := 0 ≤ s ∧ s ≤ 1099511627776
def dayOk (s : Int) : Prop := 0 ≤ s ∧ s ≤ 100000
instance (s : Int) : Decidable (sumOk s) := by unfold sumOk; infer_instance
instance (s : Int) : Decidable (dayOk s) := by unfold dayOk; infer_instance

/-- a result that may not exceed a limit: the value, the error -/
def capV (m n : Int) : Int := if n > m then 0 else n
def capE (m n : Int) : Int := if n > m then 3 else 0

def iOk (s p f t b : Int) : Prop := sumOk s ∧ (0 ≤ p ∧ p ≤ 1000) ∧ dayOk f ∧ dayOk t ∧ f ≤ t ∧ (b = 360 ∨ b = 365)
instance (s p f t b : Int) : Decidable (iOk s p f t b) := by unfold iOk; infer_instance
def iVal (s p f t b : Int) : Int := if iOk s p f t b then capV 1099511627776 (s * (p * (t - f)) / (1000 * b)) else 0
def iErr (s p f t b : Int) : Int := if iOk s p f t b then capE 1099511627776 (s * (p * (t - f)) / (1000 * b)) else 1

def dOk (s p d : Int) : Prop := sumOk s ∧ (0 ≤ p ∧ p ≤ 1000) ∧ 0 ≤ d ∧ d ≤ 20000
instance (s p d : Int) : Decidable (dOk s p d) := by unfold dOk; infer_instance
def ceil (a b : Int) : Int := (a + b - 1) / b
def dVal (s p d : Int) : Int := if dOk s p d then capV s (ceil (s * (p * d)) 360000) else 0
def dErr (s p d : Int) : Int := if dOk s p d then capE s (ceil (s * (p * d)) 360000) else 1

/-- the rate of a pair on a day: the greatest Since, the first one of several -/
def pick (f t day : Int) (best : Option Rate) (r : Rate) : Option Rate :=
  if r.f = f ∧ r.t = t ∧ r.s ≤ day then
    match best with
    | none => some r
    | some b => if b.s < r.s then some r else best
  else best
def find (rs : List Rate) (f t day : Int) : Option Rate := rs.foldl (pick f t day) none
def rOk (r : Rate) : Prop := 1 ≤ r.n ∧ r.n ≤ 1073741824 ∧ 1 ≤ r.d ∧ r.d ≤ 1073741824
instance (r : Rate) : Decidable (rOk r) := by unfold rOk; infer_instance
def cOk (rs : List Rate) (s day : Int) : Prop := rs.length ≤ 100 ∧ sumOk s ∧ dayOk day ∧ ∀ r ∈ rs, rOk r
instance (rs : List Rate) (s day : Int) : Decidable (cOk rs s day) := by unfold cOk; infer_instance
def which (rs : List Rate) (f t day : Int) : Option (Int × Int) :=
  match find rs f t day with
  | some r => some (r.n, r.d)
  | none => match find rs t f day with
    | some r => some (r.d, r.n)
    | none => none
def cVal (rs : List Rate) (s f t day : Int) : Int :=
  if cOk rs s day then (if f = t then s else match which rs f t day with | some p => capV 1099511627776 (s * p.1 / p.2) | none => 0) else 0
def cErr (rs : List Rate) (s f t day : Int) : Int :=
  if cOk rs s day then (if f = t then 0 else match which rs f t day with | some p => capE 1099511627776 (s * p.1 / p.2) | none => 4) else 1

end Go.Proofs.Ytphbgobdkmjijaa.Mo
