/- Marks of arguments: lights, plans. -/
import Derived.Test.YtgkgcfmmhkknkaaGreatU3
import Derived.Test.YtgkgcfmmhkknkaaGreatU4
namespace Go.Proofs.YtgkgcfmmhkknkaaGreat
open Go.RowKit Go.PlainAid

abbrev intT' : TypeId → Prop := fun t => t = 3
theorem and3 {a b c : Prop} (h : a ∧ b) (k : c) : a ∧ b ∧ c := ⟨h.1, h.2, k⟩
end Go.Proofs.YtgkgcfmmhkknkaaGreat
