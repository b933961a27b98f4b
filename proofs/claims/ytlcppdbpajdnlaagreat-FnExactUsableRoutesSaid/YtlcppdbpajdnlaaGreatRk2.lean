/- Contracts: a result that is a list of blocks, compared, marked, asked again. -/
import Derived.Test.YtlcppdbpajdnlaaGreatRp
namespace Go.Proofs.YtlcppdbpajdnlaaGreat
open Go.RowKit Go.PlainAid

end Go.Proofs.YtlcppdbpajdnlaaGreat
