/- Plain laws: risk groups (no program in sight). -/
import Derived.Test.YteckjlkhopkogaaGreatU3
namespace Go.Proofs.YteckjlkhopkogaaGreat
open Go.RowKit
end Go.Proofs.YteckjlkhopkogaaGreat
