/- Contracts: assignment by an order, the program's side. -/
import Derived.Test.YtmpdljcihiidaaaGreatAg4
namespace Go.Proofs.YtmpdljcihiidaaaGreat
open Go.RowKit Go.PlainAid

/-- The bools of a row. -/
def bvs (D : List Bool) : List Value := D.map Value.bool
theorem grClo_any (k h g n : Nat) (D : List Bool) (w : World) (hc : w.cell? ⟨h, 0, none⟩ = some (.slice (some ⟨g, 0, none⟩) n n)) (hD : RowAt w g 4 (bvs D)) (hn : D.length = n) (hk : k < n) :
    Calls Tryz.prog 126 (#[.int .i64 (k : Int)] ++ #[.pointer (some ⟨h, 0, none⟩)]) w fun e w' => e = .returned (.bool (D.getD k false)) ∧ Fresh w w' := by
  have hkz : (k : Int) < (n : Int) := by omega
  have hDk : (bvs D)[k]? = some (.bool (D.getD k false)) := by
    unfold bvs
    rw [List.getElem?_map, List.getElem?_eq_getElem (by omega), List.getD_eq_getElem?_getD, List.getElem?_eq_getElem (by omega)]
    rfl
  have hc1 := hD.cell hDk
  clear hD hDk hn
  go_enter Tryz.func126, Tryz.ntmps126
  go_wp2
  go_ret
  exact ⟨rfl, frefl _⟩
end Go.Proofs.YtmpdljcihiidaaaGreat
