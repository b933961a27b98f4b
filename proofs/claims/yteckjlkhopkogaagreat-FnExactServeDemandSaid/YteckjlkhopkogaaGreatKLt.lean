/- One light as an argument: weighed, copied, compared, marked. -/
import Derived.Test.YteckjlkhopkogaaGreatMl
namespace Go.Proofs.YteckjlkhopkogaaGreat
open Go.RowKit Go.PlainAid
def LgIn (w:World) (v:Value) (X:LtV):Prop:=∃ x:LL,v = llV x∧Ints w x.r.q x.r.fibs∧x.r.fibs.length ≤ 1048576∧X = x.val
theorem LgIn.keep {w w':World} {v:Value} {X:LtV} (h:LgIn w v X) (hb:Fresh w w'):LgIn w' v X:=by
 obtain ⟨x,h1,h2,r⟩:=h
 exact ⟨x,h1,h2.keep hb,r⟩
theorem LgIn.shape {w:World} {v:Value} {X:LtV} (h:LgIn w v X):∃ i s q m c b d,v = .agg #[.int .i64 i, .int .i64 s, .slice q m c, .int .i64 b, .int .i64 d]:=by
 obtain ⟨x,h1,_⟩:=h
 exact ⟨_,_,_,_,_,_,_,h1⟩
section
open Go.ChangeShapes Go.WideShapes Go.ChangeAt Go.Joins
variable {H:Type} {enc:TypeId × Value→H}
end
end Go.Proofs.YteckjlkhopkogaaGreat
