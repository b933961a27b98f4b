/- Valid services: both sides on a list as one value. -/
import Derived.Test.YtjaacinngfblkaaSv7
import Derived.Test.YtjaacinngfblkaaKSv
namespace Go.Proofs.Ytjaacinngfblkaa
open Go.RowKit

theorem implIsValidServices_k (v : Value) (n : Net) (v2 : Value) (L : List SvV) (w : World) (h : NetIn w v n) (h2 : SlC w v2 L) :
    Calls Try.prog 12 #[v, v2] w fun e w' => e = .returned (.bool (svsB n L)) ∧ Fresh w w' := by
  obtain ⟨p, cap, l, rfl, hI, hs, hc, rfl⟩ := h2
  exact implIsValidServices_any v n p cap l w h hI hs hc
theorem specIsValidServices_k (v : Value) (n : Net) (v2 : Value) (L : List SvV) (w : World) (h : NetIn w v n) (h2 : SlC w v2 L) :
    Calls Try.prog 9 #[v, v2] w fun e w' => e = .returned (.bool (svsB n L)) ∧ Fresh w w' := by
  obtain ⟨p, cap, l, rfl, hI, hs, hc, rfl⟩ := h2
  exact specIsValidServices_any v n p cap l w h hI hs
end Go.Proofs.Ytjaacinngfblkaa
