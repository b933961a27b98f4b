/- Contracts: slices.Delete of one light. -/
import Derived.Test.YteckjlkhopkogaaGreatDl
namespace Go.Proofs.YteckjlkhopkogaaGreat
open Go.RowKit Go.PlainAid
end Go.Proofs.YteckjlkhopkogaaGreat
