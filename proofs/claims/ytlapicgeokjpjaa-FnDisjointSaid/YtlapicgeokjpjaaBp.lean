/- Contracts: the best pair of routes, the program's side: the function called with each pair. -/
import Derived.Test.YtlapicgeokjpjaaBpP
namespace Go.Proofs.Ytlapicgeokjpjaa
open Go.RowKit Go.PlainAid

end Go.Proofs.Ytlapicgeokjpjaa
