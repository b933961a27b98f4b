/- Requests that came in, as one value. -/
import Derived.Test.YtjlhjkdmpngkbaaOpen2
import Derived.Test.YtjlhjkdmpngkbaaKReq
namespace Go.Proofs.Ytjlhjkdmpngkbaa
open Go.RowKit Go.ChangeShapes Go.WideShapes Go.ChangeAt Go.Joins
set_option maxRecDepth 100000 in
theorem rq_of_trod {H : Type} {enc : TypeId × Value → H} {W : World} {r : Reach} {b : Nat} {v : Value} {d : DataW H} {p : List MemPlace} (hok : Value.okWide Try.prog W r b 39 v) (h : DataW.Trod enc Try.prog W 0 (fun _ => true) true 39 v d p) :
    ∃ L, RqRaw W v L := by
  obtain ⟨q, cap, l, h1, h2, h3, h4⟩ := reqs_of_trod hok h
  exact ⟨_, q, cap, l, h1, h2, h3, h4, rfl⟩
end Go.Proofs.Ytjlhjkdmpngkbaa
