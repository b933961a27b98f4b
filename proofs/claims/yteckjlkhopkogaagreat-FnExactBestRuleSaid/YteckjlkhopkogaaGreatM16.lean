/- Texts of mine laid together (Sv3, Sva). -/
import Derived.Test.YteckjlkhopkogaaGreatSv2
import Derived.Test.YteckjlkhopkogaaGreatM14
namespace Go.Proofs.YteckjlkhopkogaaGreat
open Go.RowKit Go.PlainAid
def ordF (n:Nat):List Int:=(List.range n).map fun i:Nat=>(i:Int)
theorem ordF_len (n:Nat):(ordF n).length=n:=by simp[ordF]
theorem ordF_succ (n:Nat):ordF (n+1)=ordF n++[(n:Int)]:=by unfold ordF;rw[List.range_succ,List.map_append];rfl
theorem ordF_bd {n:Nat}:∀ i∈ordF n,0≤i∧i<(n:Int):=by
 intro i hi
 obtain⟨k,hk,rfl⟩:=List.mem_map.1 hi
 have:=List.mem_range.1 hk
 omega
def saF (P:PlanV) (fm:List (Int × Int)) (ds:List Fib) (fit:Int):SdV × Bool:=if askS P fm ds fit=true then svF P fm ds fit (ordF ds.length) else ((zeroP,[],0),false)
theorem saF_no {P:PlanV} {fm:List (Int × Int)} {ds:List Fib} {fit:Int} (h:askS P fm ds fit=false):saF P fm ds fit=((zeroP,[],0),false):=by unfold saF;rw[if_neg (by rw[h];simp)]
theorem saF_yes {P:PlanV} {fm:List (Int × Int)} {ds:List Fib} {fit:Int} (h:askS P fm ds fit=true):saF P fm ds fit=svF P fm ds fit (ordF ds.length):=by unfold saF;rw[if_pos h]
def OutAl (P:PlanV) (fm:List (Int × Int)) (ds:List Fib) (fit:Int) (w:World) (e:Ending) (w':World):Prop:=∃ v',e=.returned (.tuple #[v',.bool (saF P fm ds fit).2])∧SdOwn w' w.heap.size v' (saF P fm ds fit).1∧Fresh w w'
set_option maxHeartbeats 4000000 in
set_option maxRecDepth 100000 in
theorem implServeAll_any (v:Value) (P:PlanV) (pf:Option Addr) (cf:Nat) (fm:List (Int × Int)) (pd:Option Addr) (cd:Nat) (ds:List Fib) (fit:Int) (w:World) (h:PlIn w v P) (hfm:Prs w pf fm) (hfl:fm.length≤1048576) (hd:Fibs w pd ds) (hdl:ds.length≤1048576) :
  Calls Tryz.prog 35 #[v,.slice pf fm.length cf,.slice pd ds.length cd,.int .i64 fit] w (OutAl P fm ds fit w):=by
 have HPL:=Lib.hid h
 have HPF:=Lib.hid hfm
 have HDS:=Lib.hid hd
 obtain⟨q,m,c,p,k0,e1,r,i0,e0,rfl⟩:=h.shape
 obtain⟨W2,hW2,hsz2,hf2,r1,r2⟩:=two_rows w [.slice q m c,.slice p k0 e1,.slice r i0 e0] [.slice none 0 0,.slice none 0 0,.slice none 0 0,.slice none 0 0,.int .i64 0] 38 42
 have HC1:=Lib.hid (isServing_any (.agg #[.slice q m c,.slice p k0 e1,.slice r i0 e0]) P pf cf fm pd cd ds fit W2 (HPL.out.keep hf2) (HPF.out.keep hf2) hfl (HDS.out.keep hf2) hdl)
 have HBY:Hid (∀ W (po:Option Addr) (co:Nat),askS P fm ds fit=true→Fresh W2 W→Ints W po (ordF ds.length)→Calls Tryz.prog 78 #[.agg #[.slice q m c,.slice p k0 e1,.slice r i0 e0],.slice pf fm.length cf,.slice pd ds.length cd,.int .i64 fit,.slice po (ordF ds.length).length co] W (OutSa P fm ds fit (ordF ds.length) W)):=fun W po co ha hW ho=>by
  obtain⟨ha1,ha2,_,ha4⟩:=askS_us ha
  exact serveBy_any _ P pf cf fm pd cd ds fit po co (ordF ds.length) W (HPL.out.keep (fstep hf2 hW)) (HPF.out.keep (fstep hf2 hW)) hfl (HDS.out.keep (fstep hf2 hW)) ha4 ho (ordF_len _) ordF_bd ha1 ha2
 have HF2:=Lib.hid hf2
 have HR1:=Lib.hid r1
 have HR2:=Lib.hid r2
 have HW2:=Lib.hid hW2
 have hsz:=hf2.size
 clear h hfm hd hf2 r1 r2 hW2
 cases hask:askS P fm ds fit
 ·have HE:=Lib.hid (saF_no hask)
  rw[hask] at HC1
  clear hask HBY
  go_enter Tryz.func35,Tryz.ntmps35
  go_wp2_with fail
  rw[← HW2.out]
  refine(HC1.out).mono ?_
  rintro e w1 ⟨rfl,hb⟩
  have HB:=Lib.hid hb
  have hz:=HR2.out.keep hb
  have y0:=hz.cell (i:=0) rfl
  have y1:=hz.cell (i:=1) rfl
  have y2:=hz.cell (i:=2) rfl
  have y3:=hz.cell (i:=3) rfl
  have y4:=hz.cell (i:=4) rfl
  have u0:=hz.frozen 0
  have u1:=hz.frozen 1
  have u2:=hz.frozen 2
  have u3:=hz.frozen 3
  have u4:=hz.frozen 4
  have hfin:=((((hz.set 0 (.slice none 0 0)).set 1 (.slice none 0 0)).set 2 (.slice none 0 0)).set 3 (.slice none 0 0)).set 4 (.int .i64 0)
  have k0:=hfin.cell (i:=0) rfl
  have k1:=hfin.cell (i:=1) rfl
  have k2:=hfin.cell (i:=2) rfl
  have k3:=hfin.cell (i:=3) rfl
  have k4:=hfin.cell (i:=4) rfl
  clear hz hb hfin HC1
  go_wp2
  refine bodyPost_ret (v:=.tuple #[.agg #[.slice none 0 0,.slice none 0 0,.slice none 0 0,.slice none 0 0,.int .i64 0],.bool false]) (by simp[results,Tryz.results35,go_sem,k0,k1,k2,k3,k4]) rfl ?_
  unfold OutAl
  rw[HE.out]
  exact⟨_,rfl,zeroSd_own _ _,fset (fset (fset (fset (fset (fstep HF2.out HB.out) (by omega) _) (by omega) _) (by omega) _) (by omega) _) (by omega) _⟩
 ·have HE:=Lib.hid (saF_yes hask)
  have hd12:=(askS_us hask).2.2.2
  have HASK:=Lib.hid hask
  rw[hask] at HC1
  clear hask
  go_enter Tryz.func35,Tryz.ntmps35
  go_wp2_with fail
  rw[← HW2.out]
  refine(HC1.out).mono ?_
  rintro e w1 ⟨rfl,hb⟩
  have HB:=Lib.hid hb
  obtain⟨W3,hW3⟩:∃ W,W=w1.alloc (.cells #[] 3):=⟨_,rfl⟩
  have hf3:Fresh w1 W3:=by rw[hW3];exact fnew (frefl _) _
  have hro:RowAt W3 w1.heap.size 3 []:=by rw[hW3];exact RowAt.new _ _ _
  have HO3:Hid (W3.ownsRow W2.heap.size 3 1 (.slice (some ⟨w1.heap.size,0,none⟩) 0 0) 0 []):=ownsRow_zero hro hb.size
  have HF3:=Lib.hid (fstep hb hf3)
  have HW3:=Lib.hid hW3
  clear hb hf3 hro hW3 HC1
  go_wp2
  try rw[← HW3.out]
  go_loopw [10,22] (fun ov ix wr=>∃ j:Nat,j≤ds.length∧ix=.int .i64 j∧wr.ownsRow W2.heap.size 3 1 ov (ordF j).length ((ordF j).map iv)∧Fresh W2 wr) (fun _ i _=>ds.length - (intOf i).toNat)
  case atStart=>exact⟨0,Nat.zero_le _,rfl,HO3.out,HF3.out⟩
  case round =>
   obtain⟨j,hj,rfl,hown,hf⟩:=hrel
   have HF:=Lib.hid hf
   by_cases hlt:j<ds.length
   ·have hltz:(j:Int)<(ds.length:Int):=by omega
    clear hf
    go_wp2_with (at_builtin;refine wpList_app_ints W2 _ _ (ordF j) j rfl _ _ rfl rfl hown rfl (by rw[ordF_len];omega) HF.out ?_;intro v' w2 hown2 hf2)
    have HO2:=Lib.hid hown2
    have HG2:=Lib.hid hf2
    clear hown hown2 hf2
    go_wp2
    go_roundw
    case rel=>exact⟨j+1,by omega,by go_num,by rw[ordF_succ];exact HO2.out,HG2.out⟩
    case measure=>simp[intOf];omega
   ·have hltz:¬ (j:Int)<(ds.length:Int):=by omega
    obtain rfl:j=ds.length:=by omega
    obtain⟨po,co,rfl,ho⟩:=own_of_row hown
    have HC9:=Lib.hid (HBY.out wr po co HASK.out HF.out ho.ints)
    have a0:=(HR1.out.keep hf).cell (i:=0) rfl
    have a1:=(HR1.out.keep hf).cell (i:=1) rfl
    have a2:=(HR1.out.keep hf).cell (i:=2) rfl
    clear hown ho hf HBY
    go_wp2_with fail
    refine(HC9.out).mono ?_
    rintro e w9 ⟨v1,rfl,ho,hb⟩
    obtain⟨a0',a1',a2',b0,b1,b2,c0,c1,c2,t0,t1,t2,bk,rfl⟩:=ho.shape
    have HFF:=Lib.hid (fstep HF.out hb)
    have hz:=HR2.out.keep HFF.out
    have y0:=hz.cell (i:=0) rfl
    have y1:=hz.cell (i:=1) rfl
    have y2:=hz.cell (i:=2) rfl
    have y3:=hz.cell (i:=3) rfl
    have y4:=hz.cell (i:=4) rfl
    have u0:=hz.frozen 0
    have u1:=hz.frozen 1
    have u2:=hz.frozen 2
    have u3:=hz.frozen 3
    have u4:=hz.frozen 4
    have hfin:=((((hz.set 0 (.slice a0' a1' a2')).set 1 (.slice b0 b1 b2)).set 2 (.slice c0 c1 c2)).set 3 (.slice t0 t1 t2)).set 4 (.int .i64 bk)
    have k0:=hfin.cell (i:=0) rfl
    have k1:=hfin.cell (i:=1) rfl
    have k2:=hfin.cell (i:=2) rfl
    have k3:=hfin.cell (i:=3) rfl
    have k4:=hfin.cell (i:=4) rfl
    have HO:=Lib.hid (ho.mono (Nat.le_trans hsz HF.out.size))
    have HZ:=Lib.hid hz
    clear ho hz hb hfin a0 a1 a2
    obtain⟨S,hS⟩:∃ S,S=svF P fm ds fit (ordF ds.length):=⟨_,rfl⟩
    have HS:=Lib.hid hS
    rw[← hS] at HO ⊢
    clear hS
    go_wp2
    refine bodyPost_ret (v:=.tuple #[.agg #[.slice a0' a1' a2',.slice b0 b1 b2,.slice c0 c1 c2,.slice t0 t1 t2,.int .i64 bk],.bool S.2]) (by simp[results,Tryz.results35,go_sem,k0,k1,k2,k3,k4]) rfl ?_
    unfold OutAl
    rw[HE.out,← HS.out]
    exact⟨_,rfl,HO.out.box HZ.out,fset (fset (fset (fset (fset (fstep HF2.out HFF.out) (by omega) _) (by omega) _) (by omega) _) (by omega) _) (by omega) _⟩
set_option maxHeartbeats 4000000 in
set_option maxRecDepth 100000 in
theorem specServeAll_any (v:Value) (P:PlanV) (pf:Option Addr) (cf:Nat) (fm:List (Int × Int)) (pd:Option Addr) (cd:Nat) (ds:List Fib) (fit:Int) (w:World) (h:PlIn w v P) (hfm:Prs w pf fm) (hfl:fm.length≤1048576) (hd:Fibs w pd ds) (hdl:ds.length≤1048576) :
  Calls Tryz.prog 33 #[v,.slice pf fm.length cf,.slice pd ds.length cd,.int .i64 fit] w (OutAl P fm ds fit w):=by
 have HPL:=Lib.hid h
 have HPF:=Lib.hid hfm
 have HDS:=Lib.hid hd
 obtain⟨q,m,c,p,k0,e1,r,i0,e0,rfl⟩:=h.shape
 obtain⟨W2,hW2,hsz2,hf2,r1,r2⟩:=two_rows w [.slice q m c,.slice p k0 e1,.slice r i0 e0] [.slice none 0 0,.slice none 0 0,.slice none 0 0,.slice none 0 0,.int .i64 0] 38 42
 have HC1:=Lib.hid (l11Asked_any (.agg #[.slice q m c,.slice p k0 e1,.slice r i0 e0]) P pf cf fm pd cd ds fit W2 (HPL.out.keep hf2) (HPF.out.keep hf2) hfl (HDS.out.keep hf2) hdl)
 have HBY:Hid (∀ W (po:Option Addr) (co:Nat),askS P fm ds fit=true→Fresh W2 W→Ints W po (ordF ds.length)→Calls Tryz.prog 76 #[.agg #[.slice q m c,.slice p k0 e1,.slice r i0 e0],.slice pf fm.length cf,.slice pd ds.length cd,.int .i64 fit,.slice po (ordF ds.length).length co] W (OutSa P fm ds fit (ordF ds.length) W)):=fun W po co ha hW ho=>by
  obtain⟨ha1,ha2,_,ha4⟩:=askS_us ha
  exact l11All_any _ P pf cf fm pd cd ds fit po co (ordF ds.length) W (HPL.out.keep (fstep hf2 hW)) (HPF.out.keep (fstep hf2 hW)) hfl (HDS.out.keep (fstep hf2 hW)) ha4 ho (ordF_len _) ordF_bd ha1 ha2
 have HF2:=Lib.hid hf2
 have HR1:=Lib.hid r1
 have HR2:=Lib.hid r2
 have HW2:=Lib.hid hW2
 have hsz:=hf2.size
 clear h hfm hd hf2 r1 r2 hW2
 cases hask:askS P fm ds fit
 ·have HE:=Lib.hid (saF_no hask)
  rw[hask] at HC1
  clear hask HBY
  go_enter Tryz.func33,Tryz.ntmps33
  go_wp2_with fail
  rw[← HW2.out]
  refine(HC1.out).mono ?_
  rintro e w1 ⟨rfl,hb⟩
  have HB:=Lib.hid hb
  have hz:=HR2.out.keep hb
  have y0:=hz.cell (i:=0) rfl
  have y1:=hz.cell (i:=1) rfl
  have y2:=hz.cell (i:=2) rfl
  have y3:=hz.cell (i:=3) rfl
  have y4:=hz.cell (i:=4) rfl
  have u0:=hz.frozen 0
  have u1:=hz.frozen 1
  have u2:=hz.frozen 2
  have u3:=hz.frozen 3
  have u4:=hz.frozen 4
  have hfin:=((((hz.set 0 (.slice none 0 0)).set 1 (.slice none 0 0)).set 2 (.slice none 0 0)).set 3 (.slice none 0 0)).set 4 (.int .i64 0)
  have k0:=hfin.cell (i:=0) rfl
  have k1:=hfin.cell (i:=1) rfl
  have k2:=hfin.cell (i:=2) rfl
  have k3:=hfin.cell (i:=3) rfl
  have k4:=hfin.cell (i:=4) rfl
  clear hz hb hfin HC1
  go_wp2
  refine bodyPost_ret (v:=.tuple #[.agg #[.slice none 0 0,.slice none 0 0,.slice none 0 0,.slice none 0 0,.int .i64 0],.bool false]) (by simp[results,Tryz.results33,go_sem,k0,k1,k2,k3,k4]) rfl ?_
  unfold OutAl
  rw[HE.out]
  exact⟨_,rfl,zeroSd_own _ _,fset (fset (fset (fset (fset (fstep HF2.out HB.out) (by omega) _) (by omega) _) (by omega) _) (by omega) _) (by omega) _⟩
 ·have HE:=Lib.hid (saF_yes hask)
  have hd12:=(askS_us hask).2.2.2
  have HASK:=Lib.hid hask
  rw[hask] at HC1
  clear hask
  go_enter Tryz.func33,Tryz.ntmps33
  go_wp2_with fail
  rw[← HW2.out]
  refine(HC1.out).mono ?_
  rintro e w1 ⟨rfl,hb⟩
  have HB:=Lib.hid hb
  obtain⟨W3,hW3⟩:∃ W,W=w1.alloc (.cells #[] 3):=⟨_,rfl⟩
  have hf3:Fresh w1 W3:=by rw[hW3];exact fnew (frefl _) _
  have hro:RowAt W3 w1.heap.size 3 []:=by rw[hW3];exact RowAt.new _ _ _
  have HO3:Hid (W3.ownsRow W2.heap.size 3 1 (.slice (some ⟨w1.heap.size,0,none⟩) 0 0) 0 []):=ownsRow_zero hro hb.size
  have HF3:=Lib.hid (fstep hb hf3)
  have HW3:=Lib.hid hW3
  clear hb hf3 hro hW3 HC1
  go_wp2
  try rw[← HW3.out]
  go_loopw [10,11] (fun ov ix wr=>∃ j:Nat,j≤ds.length∧ix=.int .i64 j∧wr.ownsRow W2.heap.size 3 1 ov (ordF j).length ((ordF j).map iv)∧Fresh W2 wr) (fun _ i _=>ds.length - (intOf i).toNat)
  case atStart=>exact⟨0,Nat.zero_le _,rfl,HO3.out,HF3.out⟩
  case round =>
   obtain⟨j,hj,rfl,hown,hf⟩:=hrel
   have HF:=Lib.hid hf
   by_cases hlt:j<ds.length
   ·have hltz:(j:Int)<(ds.length:Int):=by omega
    clear hf
    go_wp2_with (at_builtin;refine wpList_app_ints W2 _ _ (ordF j) j rfl _ _ rfl rfl hown rfl (by rw[ordF_len];omega) HF.out ?_;intro v' w2 hown2 hf2)
    have HO2:=Lib.hid hown2
    have HG2:=Lib.hid hf2
    clear hown hown2 hf2
    go_wp2
    go_roundw
    case rel=>exact⟨j+1,by omega,by go_num,by rw[ordF_succ];exact HO2.out,HG2.out⟩
    case measure=>simp[intOf];omega
   ·have hltz:¬ (j:Int)<(ds.length:Int):=by omega
    obtain rfl:j=ds.length:=by omega
    obtain⟨po,co,rfl,ho⟩:=own_of_row hown
    have HC9:=Lib.hid (HBY.out wr po co HASK.out HF.out ho.ints)
    have a0:=(HR1.out.keep hf).cell (i:=0) rfl
    have a1:=(HR1.out.keep hf).cell (i:=1) rfl
    have a2:=(HR1.out.keep hf).cell (i:=2) rfl
    clear hown ho hf HBY
    go_wp2_with fail
    refine(HC9.out).mono ?_
    rintro e w9 ⟨v1,rfl,ho,hb⟩
    obtain⟨a0',a1',a2',b0,b1,b2,c0,c1,c2,t0,t1,t2,bk,rfl⟩:=ho.shape
    have HFF:=Lib.hid (fstep HF.out hb)
    have hz:=HR2.out.keep HFF.out
    have y0:=hz.cell (i:=0) rfl
    have y1:=hz.cell (i:=1) rfl
    have y2:=hz.cell (i:=2) rfl
    have y3:=hz.cell (i:=3) rfl
    have y4:=hz.cell (i:=4) rfl
    have u0:=hz.frozen 0
    have u1:=hz.frozen 1
    have u2:=hz.frozen 2
    have u3:=hz.frozen 3
    have u4:=hz.frozen 4
    have hfin:=((((hz.set 0 (.slice a0' a1' a2')).set 1 (.slice b0 b1 b2)).set 2 (.slice c0 c1 c2)).set 3 (.slice t0 t1 t2)).set 4 (.int .i64 bk)
    have k0:=hfin.cell (i:=0) rfl
    have k1:=hfin.cell (i:=1) rfl
    have k2:=hfin.cell (i:=2) rfl
    have k3:=hfin.cell (i:=3) rfl
    have k4:=hfin.cell (i:=4) rfl
    have HO:=Lib.hid (ho.mono (Nat.le_trans hsz HF.out.size))
    have HZ:=Lib.hid hz
    clear ho hz hb hfin a0 a1 a2
    obtain⟨S,hS⟩:∃ S,S=svF P fm ds fit (ordF ds.length):=⟨_,rfl⟩
    have HS:=Lib.hid hS
    rw[← hS] at HO ⊢
    clear hS
    go_wp2
    refine bodyPost_ret (v:=.tuple #[.agg #[.slice a0' a1' a2',.slice b0 b1 b2,.slice c0 c1 c2,.slice t0 t1 t2,.int .i64 bk],.bool S.2]) (by simp[results,Tryz.results33,go_sem,k0,k1,k2,k3,k4]) rfl ?_
    unfold OutAl
    rw[HE.out,← HS.out]
    exact⟨_,rfl,HO.out.box HZ.out,fset (fset (fset (fset (fset (fstep HF2.out HFF.out) (by omega) _) (by omega) _) (by omega) _) (by omega) _) (by omega) _⟩
theorem zeroSd_small:SmSd (zeroP,[],0):=⟨zeroP_small,by simp⟩
theorem svF_small {P:PlanV} (hp:planB P=true) (hs:PlSmall P) (fm:List (Int × Int)) (ds:List Fib) (hd:ds.length≤12) (fit:Int) (l:List Int):SmSd (svF P fm ds fit l).1:=by
 cases h:svTo P fm ds fit l with
 | none=>rw[svF_none h];exact zeroSd_small
 | some S =>
  rw[svF_some h]
  obtain⟨g1,_,g3,_⟩:=svTo_good hp fm ds fit l S h
  obtain⟨_,k2,_⟩:=planB_at g1
  exact⟨⟨svTo_small hp hs fm ds fit l S h,by show S.1.lights.length≤1024;omega⟩,by show S.2.1.length≤1024;omega⟩
theorem saF_small (P:PlanV) (fm:List (Int × Int)) (ds:List Fib) (fit:Int) (hs:PlSmall P):SmSd (saF P fm ds fit).1:=by
 cases h:askS P fm ds fit
 ·rw[saF_no h];exact zeroSd_small
 ·rw[saF_yes h]
  obtain⟨a1,_,_,a4⟩:=askS_us h
  exact svF_small a1 hs fm ds a4 fit _
theorem implServeAll_l (v:Value) (P:PlanV) (v1:Value) (fm:List (Int × Int)) (v2:Value) (ds:List Fib) (fit:Int) (w:World) (h:PlIn w v P) (h1:FmIn w v1 fm) (h2:DmIn w v2 ds) :
  Calls Tryz.prog 35 #[v,v1,v2,.int .i64 fit] w fun e w'=>∃ v',e=.returned (.tuple #[v',.bool (saF P fm ds fit).2])∧SdOwn w' w.heap.size v' (saF P fm ds fit).1∧Fresh w w':=by
 obtain⟨pf,cf,rfl,hfm,hfl⟩:=h1
 obtain⟨pd,cd,rfl,hd,hdl⟩:=h2
 exact implServeAll_any v P pf cf fm pd cd ds fit w h hfm hfl hd hdl
theorem specServeAll_l (v:Value) (P:PlanV) (v1:Value) (fm:List (Int × Int)) (v2:Value) (ds:List Fib) (fit:Int) (w:World) (h:PlIn w v P) (h1:FmIn w v1 fm) (h2:DmIn w v2 ds) :
  Calls Tryz.prog 33 #[v,v1,v2,.int .i64 fit] w fun e w'=>∃ v',e=.returned (.tuple #[v',.bool (saF P fm ds fit).2])∧SdOwn w' w.heap.size v' (saF P fm ds fit).1∧Fresh w w':=by
 obtain⟨pf,cf,rfl,hfm,hfl⟩:=h1
 obtain⟨pd,cd,rfl,hd,hdl⟩:=h2
 exact specServeAll_any v P pf cf fm pd cd ds fit w h hfm hfl hd hdl
end Go.Proofs.YteckjlkhopkogaaGreat
