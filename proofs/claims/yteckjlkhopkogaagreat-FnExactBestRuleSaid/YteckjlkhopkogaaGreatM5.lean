/- Texts of mine laid together (KLt, Km). -/
import Derived.Test.YteckjlkhopkogaaGreatM2
namespace Go.Proofs.YteckjlkhopkogaaGreat
open Go.RowKit Go.PlainAid
def LgIn (w:World) (v:Value) (X:LtV):Prop:=∃ x:LL,v=llV x∧Ints w x.r.q x.r.fibs∧x.r.fibs.length≤1048576∧X=x.val
section
open Go.ChangeShapes Go.WideShapes Go.ChangeAt Go.Joins
variable {H:Type} {enc:TypeId × Value→H}
end
def SmRt (R:Int × List Int):Prop:=R.2.length≤1048576
def RtOwn (w:World) (base:Nat) (v:Value) (R:Int × List Int):Prop:=∃ q c,v=.agg #[.int .i64 R.1,.slice q R.2.length c]∧Own w base 3 q (R.2.map iv)
theorem RtOwn.mono {w:World} {base base':Nat} {v:Value} {R:Int × List Int} (h:RtOwn w base v R) (hb:base'≤base):RtOwn w base' v R:=by
 obtain⟨q,c,h1,h2⟩:=h
 exact⟨q,c,h1,h2.mono hb⟩
end Go.Proofs.YteckjlkhopkogaaGreat
