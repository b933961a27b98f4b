/- Contracts: FirstFit and LastFit of the reference; FitPositions on both sides; marks; the walks of the three laws. -/
import Derived.Test.YtnhjacaiggghnaaFit
namespace Go.Proofs.Ytnhjacaiggghnaa
open Go.RowKit

end Go.Proofs.Ytnhjacaiggghnaa
