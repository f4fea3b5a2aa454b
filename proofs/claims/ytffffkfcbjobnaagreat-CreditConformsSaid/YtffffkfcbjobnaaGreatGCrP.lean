/- Walks by the logic of calls, and plain laws. -/
import Derived.Test.YtffffkfcbjobnaaGreatGCrE
namespace Go.Gh
open Go Go.Proofs
set_option maxRecDepth 1000000
set_option maxHeartbeats 2000000
set_option linter.unusedSimpArgs false
set_option linter.unusedVariables false
set_option linter.unnecessarySimpa false
open Go.RowKit

/-- the library's table of powers of ten: any 20 words -/
class PowTab where
  v : List Int
  len : v.length = 20
  rng : ∀ x, x ∈ v → 0 ≤ x ∧ x ≤ 18446744073709551615
instance powLaid [PowTab] : Laid := ⟨[(1, tabD .u64 PowTab.v)]⟩
theorem Rel.bare [PowTab] {ν : Nu} {F : Fz} {w : World} {H : Hp} (h : @Rel powLaid ν F w H) : @Rel seatLaid ν F w H := @Rel.mk seatLaid ν F w H h.inj h.blk h.old (fun q hq => nomatch hq)
theorem Rel.clad [PowTab] {ν ν' : Nu} {F F' : Fz} {w w' : World} {H H' : Hp} (h : @Rel powLaid ν F w H) (h' : @Rel seatLaid ν' F' w' H') (k : Keep F w F' w') : @Rel powLaid ν' F' w' H' := @Rel.mk powLaid ν' F' w' H' (@Rel.inj seatLaid _ _ _ _ h') (@Rel.blk seatLaid _ _ _ _ h') (@Rel.old seatLaid _ _ _ _ h') (h.glob.keep k)
theorem GC.lift [PowTab] {P : Program} {f : FuncId} {args : List G} {g : G} (h : @GC seatLaid P f args g) : @GC powLaid P f args g :=
  ⟨h.1, fun ν F w H vs hr hv => (h.2 ν F w H vs hr.bare hv).mono fun e w' ⟨F', v, h1, h2, h3, h4⟩ => ⟨F', v, h1, h2, hr.clad h3 h4.keep, h4⟩⟩
theorem GM.lift [PowTab] {P : Program} {f : FuncId} {args : List G} {hs : List Blk} {g : G} {hs' : List (Option Blk)} (h : @GM seatLaid P f args hs g hs') : @GM powLaid P f args hs g hs' :=
  ⟨h.1, fun ν F w vs hr hn hv => (h.2 ν F w vs hr.bare hn hv).mono fun e w' ⟨ν', F', v, h1, h2, h3, h4, h5, h6⟩ => ⟨ν', F', v, h1, h2, hr.clad h3 h6.keep, h4, h5, h6⟩⟩
/-- what the library prints of a number with this table -/
class ItoaU [PowTab] where
  f : Int → ByteArray
  size : ∀ n, (f n).size ≤ 24
  ok : ∀ n, 0 ≤ n → n ≤ 1099511627776 → GC Tryz.prog 222 [iG n] (sG (f n))
end Go.Gh
