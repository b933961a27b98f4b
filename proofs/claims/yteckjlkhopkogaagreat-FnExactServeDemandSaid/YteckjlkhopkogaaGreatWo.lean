/- Contracts: a plan without one of its lights, the program's side. -/
import Derived.Test.YteckjlkhopkogaaGreatDl2
namespace Go.Proofs.YteckjlkhopkogaaGreat
open Go.RowKit Go.PlainAid
end Go.Proofs.YteckjlkhopkogaaGreat
