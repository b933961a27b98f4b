/- Contracts: slices.Delete of one light. -/
import Derived.Test.YtgiinjleehgkoaaGreatDl
namespace Go.Proofs.YtgiinjleehgkoaaGreat
open Go.RowKit Go.PlainAid

end Go.Proofs.YtgiinjleehgkoaaGreat
