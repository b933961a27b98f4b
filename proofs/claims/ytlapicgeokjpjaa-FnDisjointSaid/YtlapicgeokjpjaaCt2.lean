/- Contracts: the pairs of routes, the reference's side. -/
import Derived.Test.YtlapicgeokjpjaaCt
namespace Go.Proofs.Ytlapicgeokjpjaa
open Go.RowKit Go.PlainAid

/-- Two places as a list. -/
def pI (x : Nat × Nat) : List Int := [(x.1 : Int), (x.2 : Int)]
end Go.Proofs.Ytlapicgeokjpjaa
