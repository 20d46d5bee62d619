/- how many bytes and words a short and a long key have -/
import Derived.Test.YtgellbapbphnlaaRts
namespace Go.Proofs.Ytgellbapbphnlaa
open Go.RowKit

/-- How many bytes a key has. -/
def kn (long : Bool) : Nat := if long then 32 else 16
def km (long : Bool) : Nat := if long then 8 else 4
theorem kn_km (long : Bool) : kn long = 4 * km long ∧ (km long = 4 ∨ km long = 8) ∧ kn long ≤ 32 := by cases long <;> simp [kn, km]
end Go.Proofs.Ytgellbapbphnlaa
