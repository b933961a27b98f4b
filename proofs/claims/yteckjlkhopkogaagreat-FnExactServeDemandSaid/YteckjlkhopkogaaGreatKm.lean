/- Contracts: a result that is a route (or two of them), compared, marked, asked again. -/
import Derived.Test.YteckjlkhopkogaaGreatPm2
import Derived.Test.YteckjlkhopkogaaGreatKLt
namespace Go.Proofs.YteckjlkhopkogaaGreat
open Go.RowKit Go.PlainAid
def SmRt (R:Int × List Int):Prop:=R.2.length ≤ 1048576
def RtOwn (w:World) (base:Nat) (v:Value) (R:Int × List Int):Prop:=∃ q c,v = .agg #[.int .i64 R.1, .slice q R.2.length c]∧Own w base 3 q (R.2.map iv)
def RtHeld (w:World) (lo hi:Nat) (v:Value) (R:Int × List Int):Prop:=∃ q c,v = .agg #[.int .i64 R.1, .slice q R.2.length c]∧Held w lo hi 3 q (R.2.map iv)
theorem RtOwn.shape {w:World} {base:Nat} {v:Value} {R:Int × List Int} (h:RtOwn w base v R):∃ s q m c,v = .agg #[.int .i64 s, .slice q m c]:=by
 obtain ⟨q,c,rfl,_⟩:=h
 exact ⟨_,_,_,_,rfl⟩
theorem RtOwn.keep {w w':World} {base:Nat} {v:Value} {R:Int × List Int} (h:RtOwn w base v R) (hb:Fresh w w'):RtOwn w' base v R:=by
 obtain ⟨q,c,h1,h2⟩:=h
 exact ⟨q,c,h1,h2.keep hb⟩
theorem RtOwn.mono {w:World} {base base':Nat} {v:Value} {R:Int × List Int} (h:RtOwn w base v R) (hb:base' ≤ base):RtOwn w base' v R:=by
 obtain ⟨q,c,h1,h2⟩:=h
 exact ⟨q,c,h1,h2.mono hb⟩
theorem RtOwn.held {w:World} {lo:Nat} {v:Value} {R:Int × List Int} (h:RtOwn w lo v R):RtHeld w lo w.heap.size v R:=by
 obtain ⟨q,c,h1,h2⟩:=h
 exact ⟨q,c,h1,h2.held⟩
theorem RtHeld.own {w:World} {lo hi:Nat} {v:Value} {R:Int × List Int} (h:RtHeld w lo hi v R):RtOwn w lo v R:=by
 obtain ⟨q,c,h1,h2⟩:=h
 exact ⟨q,c,h1,h2.1⟩
theorem RtHeld.keep {w w':World} {lo hi:Nat} {v:Value} {R:Int × List Int} (h:RtHeld w lo hi v R) (hb:Fresh w w'):RtHeld w' lo hi v R:=by
 obtain ⟨q,c,h1,h2⟩:=h
 exact ⟨q,c,h1,h2.keep hb⟩
theorem RtHeld.wide {w:World} {lo hi lo' hi':Nat} {v:Value} {R:Int × List Int} (h:RtHeld w lo hi v R) (hl:lo' ≤ lo) (hh:hi ≤ hi'):RtHeld w lo' hi' v R:=by
 obtain ⟨q,c,h1,h2⟩:=h
 exact ⟨q,c,h1,h2.wide hl hh⟩
theorem RtHeld.mk {T:TypeId→Prop} {lo hi lo' hi':Nat} {w w':World} {v:Value} {R:Int × List Int} (h:RtHeld w lo hi v R) (hb:Mk T lo' hi' w w') (hd:hi ≤ lo' ∨ hi' ≤ lo):RtHeld w' lo hi v R:=by
 obtain ⟨q,c,h1,h2⟩:=h
 exact ⟨q,c,h1,h2.mk hb hd⟩
theorem RtHeld.below {lo hi base:Nat} {w w':World} {v:Value} {R:Int × List Int} (h:RtHeld w lo hi v R) (hb:Below base w w') (hd:hi ≤ base):RtHeld w' lo hi v R:=by
 obtain ⟨q,c,h1,h2⟩:=h
 exact ⟨q,c,h1,h2.below hb hd⟩
theorem QMk.own {base base':Nat} {q q':Option Addr} {cs:List Value} {w w':World} (h:QMk base q w w') (hr:Own w base' 3 q' cs) (hd:∀ g o h o',q = some ⟨g,o,none⟩→q' = some ⟨h,o',none⟩→g ≠ h):Own w' base' 3 q' cs:=by
 rcases h with rfl | ⟨b,hq,_,hb⟩
 ·exact hr
 ·rcases hr with hr | ⟨g,sp,h1,h2,h3⟩
  ·exact Or.inl hr
  ·exact Or.inr ⟨g,sp,h1,h2,hb.other h3 (fun e=>(hd b 0 g 0 hq h1) e.symm)⟩
end Go.Proofs.YteckjlkhopkogaaGreat
