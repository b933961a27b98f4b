/- Lists of demands as one value: weighed, copied, compared, marked. -/
import Derived.Test.YteckjlkhopkogaaGreatU2
import Derived.Test.YteckjlkhopkogaaGreatU3
namespace Go.Proofs.YteckjlkhopkogaaGreat
open Go.RowKit Go.PlainAid
def DmRaw (w:World) (v:Value) (L:List Fib):Prop:=∃ p cap,v = .slice p L.length cap∧Fibs w p L∧L.length ≤ 9223372036854775807
def DmSmall (L:List Fib):Prop:=L.length ≤ 1048576
def DmIn (w:World) (v:Value) (L:List Fib):Prop:=∃ p cap,v = .slice p L.length cap∧Fibs w p L∧L.length ≤ 1048576
theorem DmRaw.keep {w w':World} {v:Value} {L:List Fib} (h:DmRaw w v L) (hb:Fresh w w'):DmRaw w' v L:=by
 obtain ⟨p,c,rfl,h1,h2⟩:=h
 exact ⟨p,c,rfl,h1.keep hb,h2⟩
theorem DmIn.keep {w w':World} {v:Value} {L:List Fib} (h:DmIn w v L) (hb:Fresh w w'):DmIn w' v L:=by
 obtain ⟨p,c,rfl,h1,h2⟩:=h
 exact ⟨p,c,rfl,h1.keep hb,h2⟩
theorem DmRaw.small {w:World} {v:Value} {L:List Fib} (h:DmRaw w v L) (hs:DmSmall L):DmIn w v L:=by
 obtain ⟨p,c,rfl,h1,_⟩:=h
 exact ⟨p,c,rfl,h1,hs⟩
def DmMine (w:World) (lo hi:Nat) (v:Value):Prop:=∃ p n cap,v = .slice p n cap∧OwnIn w lo hi 59 p (n * 4)∧n ≤ 1048576
theorem DmMine.keep {w w':World} {lo hi:Nat} {v:Value} (h:DmMine w lo hi v) (hb:Fresh w w'):DmMine w' lo hi v:=by
 obtain ⟨p,n,c,rfl,h1,h2⟩:=h
 exact ⟨p,n,c,rfl,h1.keep hb,h2⟩
theorem DmMine.mk {T:TypeId→Prop} {lo' hi':Nat} {w w':World} {lo hi:Nat} {v:Value} (_:True) (h:DmMine w lo hi v) (hb:Mk T lo' hi' w w'):DmMine w' lo hi v:=by
 obtain ⟨p,n,c,rfl,h1,h2⟩:=h
 exact ⟨p,n,c,rfl,h1.mk hb,h2⟩
theorem szDm_k (v:Value) (L:List Fib) (left:Int) (w:World) (h:DmRaw w v L) (h0:0 ≤ left) (h1:left ≤ 1048576) :
  Calls Tryz.prog 32 #[v, .int .i64 left] w (SzOut w left (DmSmall L)):=by
 obtain ⟨p,c,rfl,h2,h3⟩:=h
 exact szDemandS_any p L.length c left w h3 h0 h1
theorem toDm_o (v:Value) (L:List Fib) (w:World) (h:DmIn w v L):Calls Tryz.prog 34 #[v] w fun e w'=>∃ v',e = .returned v'∧DmIn w' v' L∧DmMine w' w.heap.size w'.heap.size v'∧Fresh w w':=by
 obtain ⟨p,c,rfl,h1,h2⟩:=h
 refine (toDemandS_any p c L w h1 h2).mono ?_
 rintro e w' ⟨rfl,hr,hf⟩
 have ho:=hr.ownIn (lo:=w.heap.size) (Nat.le_refl _)
 rw [flat_len fibC 4 (fun _=>rfl)] at ho
 exact ⟨_,rfl,⟨_,_,rfl,hr.cells,h2⟩,⟨_,_,_,rfl,ho,h2⟩,hf⟩
theorem toDm_k (v:Value) (L:List Fib) (w:World) (h:DmIn w v L):Calls Tryz.prog 34 #[v] w fun e w'=>∃ v',e = .returned v'∧DmIn w' v' L∧Fresh w w' :=
 (toDm_o v L w h).mono fun _e _w' ⟨v',h1,h2,_,h4⟩=>⟨v',h1,h2,h4⟩
theorem eqDm_k (v v':Value) (L:List Fib) (w:World) (h:DmIn w v L) (h':DmIn w v' L):Calls Tryz.prog 36 #[v,v'] w fun e w'=>e = .returned (.bool true)∧Fresh w w':=by
 obtain ⟨p,c,rfl,h1,h2⟩:=h
 obtain ⟨q,d,rfl,h3,_⟩:=h'
 exact eqDemandS_same p q c d L w h1 h3 (by omega)
theorem markDm_m (v:Value) (lo hi:Nat) (k0:Int) (w:World) (h:DmMine w lo hi v) (h0:0 ≤ k0) (h1:k0 ≤ 562949953421312):Calls Tryz.prog 37 #[v, .int .i64 k0] w (MkOut w (fun t=>t = 59) lo hi k0):=by
 obtain ⟨p,n,c,rfl,h2,h3⟩:=h
 refine (markDemandS_m p c n lo hi k0 w h2 (by omega) h0 (by omega)).mono ?_
 rintro e w' ⟨rfl,hm⟩
 exact ⟨_,rfl,by omega,by unfold Kb; omega,hm⟩
section
open Go.ChangeShapes Go.WideShapes Go.ChangeAt Go.Joins
variable {H:Type} {enc:TypeId × Value→H}
theorem cells_dm:Tryz.prog.cellsOf 51 = 4:=by kernel_rfl
set_option maxRecDepth 100000 in
theorem dm_of_trod {W:World} {r:Reach} {b:Nat} {v:Value} {d:DataW H} {p:List MemPlace} (hok:Value.okWide Tryz.prog W r b 69 v)
  (h:DataW.Trod enc Tryz.prog W 0 (fun _=>true) true 69 v d p):∃ X,DmRaw W v X:=by
 obtain ⟨q,cap,l,rfl,h1,h2⟩:=fours_of_trod Tryz.underlying69 Tryz.underlying51 cells_dm Tryz.underlying3 cells_i ⟨⟨rfl,rfl⟩,⟨rfl,rfl⟩,⟨rfl,rfl⟩,⟨rfl,rfl⟩⟩ hok h
 exact ⟨l,q,cap,rfl,h1,h2⟩
end
end Go.Proofs.YteckjlkhopkogaaGreat
