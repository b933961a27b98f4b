/- Texts of mine laid together (KDm, KFm, KD1). -/
import Derived.Test.YteckjlkhopkogaaGreatU2
import Derived.Test.YteckjlkhopkogaaGreatU3
import Derived.Test.YteckjlkhopkogaaGreatM1
namespace Go.Proofs.YteckjlkhopkogaaGreat
open Go.RowKit Go.PlainAid
def DmRaw (w:World) (v:Value) (L:List Fib):Prop:=∃ p cap,v=.slice p L.length cap∧Fibs w p L∧L.length≤9223372036854775807
def DmSmall (L:List Fib):Prop:=L.length≤1048576
def DmIn (w:World) (v:Value) (L:List Fib):Prop:=∃ p cap,v=.slice p L.length cap∧Fibs w p L∧L.length≤1048576
theorem DmRaw.keep {w w':World} {v:Value} {L:List Fib} (h:DmRaw w v L) (hb:Fresh w w'):DmRaw w' v L:=by
 obtain⟨p,c,rfl,h1,h2⟩:=h
 exact⟨p,c,rfl,h1.keep hb,h2⟩
theorem DmIn.keep {w w':World} {v:Value} {L:List Fib} (h:DmIn w v L) (hb:Fresh w w'):DmIn w' v L:=by
 obtain⟨p,c,rfl,h1,h2⟩:=h
 exact⟨p,c,rfl,h1.keep hb,h2⟩
theorem DmRaw.small {w:World} {v:Value} {L:List Fib} (h:DmRaw w v L) (hs:DmSmall L):DmIn w v L:=by
 obtain⟨p,c,rfl,h1,_⟩:=h
 exact⟨p,c,rfl,h1,hs⟩
def DmMine (w:World) (lo hi:Nat) (v:Value):Prop:=∃ p n cap,v=.slice p n cap∧OwnIn w lo hi 59 p (n * 4)∧n≤1048576
theorem DmMine.keep {w w':World} {lo hi:Nat} {v:Value} (h:DmMine w lo hi v) (hb:Fresh w w'):DmMine w' lo hi v:=by
 obtain⟨p,n,c,rfl,h1,h2⟩:=h
 exact⟨p,n,c,rfl,h1.keep hb,h2⟩
theorem DmMine.mk {T:TypeId→Prop} {lo' hi':Nat} {w w':World} {lo hi:Nat} {v:Value} (_:True) (h:DmMine w lo hi v) (hb:Mk T lo' hi' w w'):DmMine w' lo hi v:=by
 obtain⟨p,n,c,rfl,h1,h2⟩:=h
 exact⟨p,n,c,rfl,h1.mk hb,h2⟩
theorem szDm_k (v:Value) (L:List Fib) (left:Int) (w:World) (h:DmRaw w v L) (h0:0≤left) (h1:left≤1048576) :
  Calls Tryz.prog 32 #[v,.int .i64 left] w (SzOut w left (DmSmall L)):=by
 obtain⟨p,c,rfl,h2,h3⟩:=h
 exact szDemandS_any p L.length c left w h3 h0 h1
theorem toDm_o (v:Value) (L:List Fib) (w:World) (h:DmIn w v L):Calls Tryz.prog 34 #[v] w fun e w'=>∃ v',e=.returned v'∧DmIn w' v' L∧DmMine w' w.heap.size w'.heap.size v'∧Fresh w w':=by
 obtain⟨p,c,rfl,h1,h2⟩:=h
 refine(toDemandS_any p c L w h1 h2).mono ?_
 rintro e w' ⟨rfl,hr,hf⟩
 have ho:=hr.ownIn (lo:=w.heap.size) (Nat.le_refl _)
 rw[flat_len fibC 4 (fun _=>rfl)] at ho
 exact⟨_,rfl,⟨_,_,rfl,hr.cells,h2⟩,⟨_,_,_,rfl,ho,h2⟩,hf⟩
theorem toDm_k (v:Value) (L:List Fib) (w:World) (h:DmIn w v L):Calls Tryz.prog 34 #[v] w fun e w'=>∃ v',e=.returned v'∧DmIn w' v' L∧Fresh w w' :=
 (toDm_o v L w h).mono fun _e _w' ⟨v',h1,h2,_,h4⟩=>⟨v',h1,h2,h4⟩
theorem eqDm_k (v v':Value) (L:List Fib) (w:World) (h:DmIn w v L) (h':DmIn w v' L):Calls Tryz.prog 36 #[v,v'] w fun e w'=>e=.returned (.bool true)∧Fresh w w':=by
 obtain⟨p,c,rfl,h1,h2⟩:=h
 obtain⟨q,d,rfl,h3,_⟩:=h'
 exact eqDemandS_same p q c d L w h1 h3 (by omega)
theorem markDm_m (v:Value) (lo hi:Nat) (k0:Int) (w:World) (h:DmMine w lo hi v) (h0:0≤k0) (h1:k0≤562949953421312):Calls Tryz.prog 37 #[v,.int .i64 k0] w (MkOut w (fun t=>t=59) lo hi k0):=by
 obtain⟨p,n,c,rfl,h2,h3⟩:=h
 refine(markDemandS_m p c n lo hi k0 w h2 (by omega) h0 (by omega)).mono ?_
 rintro e w' ⟨rfl,hm⟩
 exact⟨_,rfl,by omega,by unfold Kb;omega,hm⟩
section
open Go.ChangeShapes Go.WideShapes Go.ChangeAt Go.Joins
variable {H:Type} {enc:TypeId × Value→H}
theorem cells_dm:Tryz.prog.cellsOf 51=4:=by kernel_rfl
set_option maxRecDepth 100000 in
theorem dm_of_trod {W:World} {r:Reach} {b:Nat} {v:Value} {d:DataW H} {p:List MemPlace} (hok:Value.okWide Tryz.prog W r b 69 v)
  (h:DataW.Trod enc Tryz.prog W 0 (fun _=>true) true 69 v d p):∃ X,DmRaw W v X:=by
 obtain⟨q,cap,l,rfl,h1,h2⟩:=fours_of_trod Tryz.underlying69 Tryz.underlying51 cells_dm Tryz.underlying3 cells_i ⟨⟨rfl,rfl⟩,⟨rfl,rfl⟩,⟨rfl,rfl⟩,⟨rfl,rfl⟩⟩ hok h
 exact⟨l,q,cap,rfl,h1,h2⟩
end
def FmRaw (w:World) (v:Value) (L:List (Int × Int)):Prop:=∃ p cap,v=.slice p L.length cap∧Prs w p L∧L.length≤9223372036854775807
def FmSmall (L:List (Int × Int)):Prop:=L.length≤1048576
def FmIn (w:World) (v:Value) (L:List (Int × Int)):Prop:=∃ p cap,v=.slice p L.length cap∧Prs w p L∧L.length≤1048576
theorem FmRaw.keep {w w':World} {v:Value} {L:List (Int × Int)} (h:FmRaw w v L) (hb:Fresh w w'):FmRaw w' v L:=by
 obtain⟨p,c,rfl,h1,h2⟩:=h
 exact⟨p,c,rfl,h1.keep hb,h2⟩
theorem FmIn.keep {w w':World} {v:Value} {L:List (Int × Int)} (h:FmIn w v L) (hb:Fresh w w'):FmIn w' v L:=by
 obtain⟨p,c,rfl,h1,h2⟩:=h
 exact⟨p,c,rfl,h1.keep hb,h2⟩
theorem FmRaw.small {w:World} {v:Value} {L:List (Int × Int)} (h:FmRaw w v L) (hs:FmSmall L):FmIn w v L:=by
 obtain⟨p,c,rfl,h1,_⟩:=h
 exact⟨p,c,rfl,h1,hs⟩
def FmMine (w:World) (lo hi:Nat) (v:Value):Prop:=∃ p n cap,v=.slice p n cap∧OwnIn w lo hi 107 p (n * 2)∧n≤1048576
theorem FmMine.keep {w w':World} {lo hi:Nat} {v:Value} (h:FmMine w lo hi v) (hb:Fresh w w'):FmMine w' lo hi v:=by
 obtain⟨p,n,c,rfl,h1,h2⟩:=h
 exact⟨p,n,c,rfl,h1.keep hb,h2⟩
theorem FmMine.mk {T:TypeId→Prop} {lo' hi':Nat} {w w':World} {lo hi:Nat} {v:Value} (_:True) (h:FmMine w lo hi v) (hb:Mk T lo' hi' w w'):FmMine w' lo hi v:=by
 obtain⟨p,n,c,rfl,h1,h2⟩:=h
 exact⟨p,n,c,rfl,h1.mk hb,h2⟩
theorem szFormatS_g (p:Option Addr) (n cap:Nat) (left:Int) (w:World) (hn:n≤9223372036854775807) (h0:0≤left) (h1:left≤1048576) :
  Calls Tryz.prog 19 #[.slice p n cap,.int .i64 left] w (SzOut w left (n≤1048576)):=by
 by_cases hb:left - (n:Int)<0
 ·go_enter Tryz.func19,Tryz.ntmps19
  go_wp2
  go_ret
  exact⟨_,rfl,by omega,by omega,fun h=>by omega,frefl _⟩
 ·go_enter Tryz.func19,Tryz.ntmps19
  go_wp2
  go_ret
  exact⟨_,rfl,by omega,by omega,fun h=>by omega,frefl _⟩
theorem szFm_k (v:Value) (L:List (Int × Int)) (left:Int) (w:World) (h:FmRaw w v L) (h0:0≤left) (h1:left≤1048576) :
  Calls Tryz.prog 19 #[v,.int .i64 left] w (SzOut w left (FmSmall L)):=by
 obtain⟨p,c,rfl,h2,h3⟩:=h
 exact szFormatS_g p L.length c left w h3 h0 h1
theorem toFm_o (v:Value) (L:List (Int × Int)) (w:World) (h:FmIn w v L):Calls Tryz.prog 22 #[v] w fun e w'=>∃ v',e=.returned v'∧FmIn w' v' L∧FmMine w' w.heap.size w'.heap.size v'∧Fresh w w':=by
 obtain⟨p,c,rfl,h1,h2⟩:=h
 refine(toFormatS_any p c L w h1 h2).mono ?_
 rintro e w' ⟨rfl,hr,hf⟩
 have ho:=hr.ownIn (lo:=w.heap.size) (Nat.le_refl _)
 rw[pcs_len] at ho
 exact⟨_,rfl,⟨_,_,rfl,hr.cells,h2⟩,⟨_,_,_,rfl,ho,h2⟩,hf⟩
theorem toFm_k (v:Value) (L:List (Int × Int)) (w:World) (h:FmIn w v L):Calls Tryz.prog 22 #[v] w fun e w'=>∃ v',e=.returned v'∧FmIn w' v' L∧Fresh w w' :=
 (toFm_o v L w h).mono fun _e _w' ⟨v',h1,h2,_,h4⟩=>⟨v',h1,h2,h4⟩
theorem eqFm_k (v v':Value) (L:List (Int × Int)) (w:World) (h:FmIn w v L) (h':FmIn w v' L):Calls Tryz.prog 26 #[v,v'] w fun e w'=>e=.returned (.bool true)∧Fresh w w':=by
 obtain⟨p,c,rfl,h1,h2⟩:=h
 obtain⟨q,d,rfl,h3,_⟩:=h'
 exact eqFormatS_same p q c d L w h1 h3 (by omega)
abbrev fmtT (t:TypeId):Prop:=t=107
set_option maxHeartbeats 1000000 in
theorem markFormatS_m (p:Option Addr) (cap n lo hi:Nat) (k0:Int) (w:World) (ho:OwnIn w lo hi 107 p (n * 2)) (hn:n≤1048576) (h0:0≤k0) (h1:k0≤1125899906842624) :
  Calls Tryz.prog 27 #[.slice p n cap,.int .i64 k0] w fun e w'=>e=.returned (.int .i64 (k0+2 * n))∧Mk fmtT lo hi w w':=by
 go_enter Tryz.func27,Tryz.ntmps27
 go_wp2
 go_loopw [1,5] (fun kk i wr=>∃ j:Nat,j≤n∧i=.int .i64 j∧kk=.int .i64 (k0+2 * j)∧Mk fmtT lo hi w wr) (fun _ i _=>n - (intOf i).toNat)
 case atStart=>exact⟨0,Nat.zero_le _,rfl,by simp,Mk.refl _ _ _ _⟩
 case round =>
  obtain⟨j,hj,rfl,rfl,hb⟩:=hrel
  have HB:=Lib.hid hb
  clear hb
  by_cases hlt:j<n
  ·have ho':=ho.mk HB.out
   rcases ho' with hnil|⟨g,cs,rfl,hl,hh,hr,hcs⟩
   ·omega
   ·have hc0:wr.cell? ⟨g,j * 2,none⟩=some cs[j * 2]:=hr.cell (List.getElem?_eq_getElem (by omega))
    have hc1:wr.cell? ⟨g,j * 2+1,none⟩=some cs[j * 2+1]:=hr.cell (List.getElem?_eq_getElem (by omega))
    have hf0:=hr.frozen (j * 2)
    have hf1:=hr.frozen (j * 2+1)
    have HR:=Lib.hid hr
    clear hr ho
    go_wp2
    go_roundw
    case rel =>
     refine⟨j+1,by omega,by go_num,by go_num,?_⟩
     exact(HB.out.set HR.out rfl hl hh _ _).set (HR.out.set _ _) rfl hl hh _ _
    case measure=>simp[intOf];omega
  ·have hjn:j=n:=by omega
   subst hjn
   go_wp2
   go_ret
   exact⟨rfl,HB.out⟩
theorem markFm_m (v:Value) (lo hi:Nat) (k0:Int) (w:World) (h:FmMine w lo hi v) (h0:0≤k0) (h1:k0≤562949953421312):Calls Tryz.prog 27 #[v,.int .i64 k0] w (MkOut w (fun t=>t=107) lo hi k0):=by
 obtain⟨p,n,c,rfl,h2,h3⟩:=h
 refine(markFormatS_m p c n lo hi k0 w h2 (by omega) h0 (by omega)).mono ?_
 rintro e w' ⟨rfl,hm⟩
 exact⟨_,rfl,by omega,by unfold Kb;omega,hm⟩
section
open Go.ChangeShapes Go.WideShapes Go.ChangeAt Go.Joins
variable {H:Type} {enc:TypeId × Value→H}
theorem cells_fm:Tryz.prog.cellsOf 109=2:=by kernel_rfl
set_option maxRecDepth 100000 in
theorem fm_of_trod {W:World} {r:Reach} {b:Nat} {v:Value} {d:DataW H} {p:List MemPlace} (hok:Value.okWide Tryz.prog W r b 49 v)
  (h:DataW.Trod enc Tryz.prog W 0 (fun _=>true) true 49 v d p):∃ X,FmRaw W v X:=by
 obtain⟨q,cap,l,rfl,h1,h2,_⟩:=pairs_of_trod Tryz.underlying49 Tryz.underlying109 cells_fm Tryz.underlying3 cells_i ⟨rfl,rfl,rfl,rfl⟩ hok h
 exact⟨l,q,cap,rfl,h1,h2⟩
end
section
open Go.ChangeShapes Go.WideShapes Go.ChangeAt Go.Joins
variable {H:Type} {enc:TypeId × Value→H}
set_option maxRecDepth 100000 in
theorem dem_of_trod {W:World} {r:Reach} {b:Nat} {v:Value} {d:DataW H} {p:List MemPlace} (hok:Value.okWide Tryz.prog W r b 51 v)
  (h:DataW.Trod enc Tryz.prog W 0 (fun _=>true) true 51 v d p):∃ X:Fib,v=.agg #[.int .i64 X.a,.int .i64 X.b,.int .i64 X.len,.int .i64 X.risk]:=by
 obtain⟨cs,rfl,_⟩:=okWide_struct Tryz.underlying51 hok
 obtain⟨fuel,hfu⟩:=h
 obtain⟨a,e,_⟩:=four_of_cells (x:=(d,p)) Tryz.underlying51 cells_dm Tryz.underlying3 cells_i ⟨⟨rfl,rfl⟩,⟨rfl,rfl⟩,⟨rfl,rfl⟩,⟨rfl,rfl⟩⟩ (by simpa [Value.cells] using hfu)
 refine⟨a,?_⟩
 rw[← Array.toArray_toList (xs:=cs),e]
end
end Go.Proofs.YteckjlkhopkogaaGreat
