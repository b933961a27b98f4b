/- Marks of arguments: lights, plans. -/
import Derived.Test.YtlcppdbpajdnlaaGreatU3
import Derived.Test.YtlcppdbpajdnlaaGreatU4
namespace Go.Proofs.YtlcppdbpajdnlaaGreat
open Go.RowKit Go.PlainAid

abbrev intT' : TypeId → Prop := fun t => t = 3
theorem and3 {a b c : Prop} (h : a ∧ b) (k : c) : a ∧ b ∧ c := ⟨h.1, h.2, k⟩
end Go.Proofs.YtlcppdbpajdnlaaGreat
