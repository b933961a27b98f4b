/- Results of pairs ([][2]int): compared, marked, asked again. -/
import Derived.Test.YteckjlkhopkogaaGreatU1
import Derived.Test.YteckjlkhopkogaaGreatU4
namespace Go.Proofs.YteckjlkhopkogaaGreat
open Go.RowKit Go.PlainAid
end Go.Proofs.YteckjlkhopkogaaGreat
