/- Contracts: what a mask is, on both sides. -/
import Derived.Test.YtmpdljcihiidaaaGreatU1
namespace Go.Proofs.YtmpdljcihiidaaaGreat
open Go.RowKit

/-- A mask of 24 slots. -/
def maskB (m : Int) : Bool := inB m 0 16777215

end Go.Proofs.YtmpdljcihiidaaaGreat
