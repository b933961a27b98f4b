/- One demand as an argument. -/
import Derived.Test.YteckjlkhopkogaaGreatKDm
import Derived.Test.YteckjlkhopkogaaGreatKFm
namespace Go.Proofs.YteckjlkhopkogaaGreat
open Go.RowKit Go.PlainAid
section
open Go.ChangeShapes Go.WideShapes Go.ChangeAt Go.Joins
variable {H:Type} {enc:TypeId × Value→H}
set_option maxRecDepth 100000 in
theorem dem_of_trod {W:World} {r:Reach} {b:Nat} {v:Value} {d:DataW H} {p:List MemPlace} (hok:Value.okWide Tryz.prog W r b 51 v)
  (h:DataW.Trod enc Tryz.prog W 0 (fun _=>true) true 51 v d p):∃ X:Fib,v = .agg #[.int .i64 X.a, .int .i64 X.b, .int .i64 X.len, .int .i64 X.risk]:=by
 obtain ⟨cs,rfl,_⟩:=okWide_struct Tryz.underlying51 hok
 obtain ⟨fuel,hfu⟩:=h
 obtain ⟨a,e,_⟩:=four_of_cells (x:=(d,p)) Tryz.underlying51 cells_dm Tryz.underlying3 cells_i ⟨⟨rfl,rfl⟩,⟨rfl,rfl⟩,⟨rfl,rfl⟩,⟨rfl,rfl⟩⟩ (by simpa [Value.cells] using hfu)
 refine ⟨a,?_⟩
 rw [← Array.toArray_toList (xs:=cs),e]
end
end Go.Proofs.YteckjlkhopkogaaGreat
