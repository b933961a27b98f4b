/- Contracts: a result that is a list of blocks, compared, marked, asked again. -/
import Derived.Test.YteckjlkhopkogaaGreatRp
namespace Go.Proofs.YteckjlkhopkogaaGreat
open Go.RowKit Go.PlainAid
end Go.Proofs.YteckjlkhopkogaaGreat
