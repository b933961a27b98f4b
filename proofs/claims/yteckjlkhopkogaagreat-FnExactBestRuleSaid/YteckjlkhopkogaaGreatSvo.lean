/- Contracts: ServeInOrder on both sides. -/
import Derived.Test.YteckjlkhopkogaaGreatM16
import Derived.Test.YteckjlkhopkogaaGreatM18
namespace Go.Proofs.YteckjlkhopkogaaGreat
open Go.RowKit Go.PlainAid
theorem odL_bd (L:List Int):∀ i∈odL L,0≤i∧i<(L.length:Int):=by
 intro i hi
 obtain⟨k,hk,rfl⟩:=List.mem_map.1 hi
 have h2:=ordS_lt (ltO (cfO L)) (List.mem_range.1 hk)
 omega
theorem costL_all {n:Net} {fm:List (Int × Int)} {l:List Fib} (h:costB n fm l=true):(costL n fm l).length=l.length:=by rw[costL_yes h,List.length_map]
def soF (P:PlanV) (fm:List (Int × Int)) (ds:List Fib) (fit:Int):SdV × Bool:=if (askS P fm ds fit && costB P.net fm ds)=true then svF P fm ds fit (odL (costL P.net fm ds)) else ((zeroP,[],0),false)
theorem soF_no {P:PlanV} {fm:List (Int × Int)} {ds:List Fib} {fit:Int} (h:(askS P fm ds fit && costB P.net fm ds)=false):soF P fm ds fit=((zeroP,[],0),false):=by unfold soF;rw[if_neg (by rw[h];simp)]
theorem soF_yes {P:PlanV} {fm:List (Int × Int)} {ds:List Fib} {fit:Int} (h:askS P fm ds fit=true) (h2:costB P.net fm ds=true):soF P fm ds fit=svF P fm ds fit (odL (costL P.net fm ds)):=by unfold soF;rw[h,h2];rfl
theorem soF_small (P:PlanV) (fm:List (Int × Int)) (ds:List Fib) (fit:Int) (hs:PlSmall P):SmSd (soF P fm ds fit).1:=by
 cases h:(askS P fm ds fit && costB P.net fm ds)
 ·rw[soF_no h];exact zeroSd_small
 ·simp only[Bool.and_eq_true] at h
  rw[soF_yes h.1 h.2]
  obtain⟨a1,_,_,a4⟩:=askS_us h.1
  exact svF_small a1 hs fm ds a4 fit _
set_option maxHeartbeats 4000000 in
set_option maxRecDepth 100000 in
theorem implServeInOrder_l (v:Value) (P:PlanV) (v1:Value) (fm:List (Int × Int)) (v2:Value) (ds:List Fib) (fit:Int) (w:World) (h:PlIn w v P) (h1:FmIn w v1 fm) (h2:DmIn w v2 ds) :
  Calls Tryz.prog 40 #[v,v1,v2,.int .i64 fit] w fun e w'=>∃ v',e=.returned (.tuple #[v',.bool (soF P fm ds fit).2])∧SdOwn w' w.heap.size v' (soF P fm ds fit).1∧Fresh w w':=by
 obtain⟨pf,cf,rfl,hfm,hfl⟩:=h1
 obtain⟨pd,cd,rfl,hd,hdl⟩:=h2
 have HPL:=Lib.hid h
 have HPF:=Lib.hid hfm
 have HDS:=Lib.hid hd
 obtain⟨q,m,c,p,k0,e1,r,i0,e0,rfl⟩:=h.shape
 obtain⟨W2,hW2,hsz2,hf2,r1,r2⟩:=two_rows w [.slice q m c,.slice p k0 e1,.slice r i0 e0] [.slice none 0 0,.slice none 0 0,.slice none 0 0,.slice none 0 0,.int .i64 0] 38 42
 have HAS:Hid (∀ W,Fresh W2 W→Calls Tryz.prog 77 #[.agg #[.slice q m c,.slice p k0 e1,.slice r i0 e0],.slice pf fm.length cf,.slice pd ds.length cd,.int .i64 fit] W fun e w'=>e=.returned (.bool (askS P fm ds fit))∧Fresh W w'):=fun W hW=>isServing_any _ P pf cf fm pd cd ds fit W (HPL.out.keep (fstep hf2 hW)) (HPF.out.keep (fstep hf2 hW)) hfl (HDS.out.keep (fstep hf2 hW)) hdl
 have HOD:Hid (∀ W,Fresh W2 W→Calls Tryz.prog 81 #[.agg #[.slice q m c,.slice p k0 e1],.slice pf fm.length cf,.slice pd ds.length cd] W fun e w'=>∃ p c,e=.returned (.tuple #[.slice p (odL (costL P.net fm ds)).length c,.bool (costB P.net fm ds)])∧Own w' W.heap.size 3 p ((odL (costL P.net fm ds)).map iv)∧Fresh W w'):=fun W hW=>implOrderDemands_any _ P.net _ fm _ ds W (HPL.out.net.keep (fstep hf2 hW)) ⟨pf,cf,rfl,HPF.out.keep (fstep hf2 hW),hfl⟩ ⟨pd,cd,rfl,HDS.out.keep (fstep hf2 hW),hdl⟩
 have HBY:Hid (∀ W (po:Option Addr) (co:Nat),askS P fm ds fit=true→costB P.net fm ds=true→Fresh W2 W→Ints W po (odL (costL P.net fm ds))→Calls Tryz.prog 78 #[.agg #[.slice q m c,.slice p k0 e1,.slice r i0 e0],.slice pf fm.length cf,.slice pd ds.length cd,.int .i64 fit,.slice po (odL (costL P.net fm ds)).length co] W (OutSa P fm ds fit (odL (costL P.net fm ds)) W)):=fun W po co ha hc hW ho=>by
  obtain⟨ha1,ha2,_,ha4⟩:=askS_us ha
  have hl:=costL_all hc
  exact serveBy_any _ P pf cf fm pd cd ds fit po co _ W (HPL.out.keep (fstep hf2 hW)) (HPF.out.keep (fstep hf2 hW)) hfl (HDS.out.keep (fstep hf2 hW)) ha4 ho (by rw[odL_len,hl]) (by rw[← hl];exact odL_bd _) ha1 ha2
 have HF2:=Lib.hid hf2
 have HR1:=Lib.hid r1
 have HR2:=Lib.hid r2
 have HW2:=Lib.hid hW2
 have hsz:=hf2.size
 clear h hfm hd hf2 r1 r2 hW2
 cases hask:askS P fm ds fit
 ·have HASK:=Lib.hid hask
  clear hask
  go_enter Tryz.func40,Tryz.ntmps40
  have HOX:=Lib.hid (HOD.out _ (frefl _))
  obtain⟨cb,hcb⟩:∃ b,b=costB P.net fm ds:=⟨_,rfl⟩
  rw[← hcb] at HOX
  go_wp2_with fail
  rw[← HW2.out]
  refine(HOX.out).mono ?_
  rintro e wo ⟨po,co,rfl,hown,hbo⟩
  clear HOX
  have HB:=Lib.hid hbo
  cases cb
  ·clear hbo hown
   have HCB:Hid (costB P.net fm ds=false):=hcb.symm
   clear hcb
   have hz:=HR2.out.keep HB.out
   have y0:=hz.cell (i:=0) rfl
   have y1:=hz.cell (i:=1) rfl
   have y2:=hz.cell (i:=2) rfl
   have y3:=hz.cell (i:=3) rfl
   have y4:=hz.cell (i:=4) rfl
   have u0:=hz.frozen 0
   have u1:=hz.frozen 1
   have u2:=hz.frozen 2
   have u3:=hz.frozen 3
   have u4:=hz.frozen 4
   have hfin:=((((hz.set 0 (.slice none 0 0)).set 1 (.slice none 0 0)).set 2 (.slice none 0 0)).set 3 (.slice none 0 0)).set 4 (.int .i64 0)
   have k0:=hfin.cell (i:=0) rfl
   have k1:=hfin.cell (i:=1) rfl
   have k2:=hfin.cell (i:=2) rfl
   have k3:=hfin.cell (i:=3) rfl
   have k4:=hfin.cell (i:=4) rfl
   clear hz hfin
   go_wp2
   refine bodyPost_ret (v:=.tuple #[.agg #[.slice none 0 0,.slice none 0 0,.slice none 0 0,.slice none 0 0,.int .i64 0],.bool false]) (by simp[results,Tryz.results40,go_sem,k0,k1,k2,k3,k4]) rfl ?_
   rw[soF_no (by rw[HCB.out,Bool.and_false])]
   exact⟨_,rfl,zeroSd_own _ _,fset (fset (fset (fset (fset (fstep HF2.out HB.out) (by omega) _) (by omega) _) (by omega) _) (by omega) _) (by omega) _⟩
  ·have HCB:Hid (costB P.net fm ds=true):=hcb.symm
   clear hcb hbo
   have HAX:=Lib.hid (HAS.out _ HB.out)
   rw[HASK.out] at HAX
   have a0:=(HR1.out.keep HB.out).cell (i:=0) rfl
   have a1:=(HR1.out.keep HB.out).cell (i:=1) rfl
   have a2:=(HR1.out.keep HB.out).cell (i:=2) rfl
   go_wp2_with fail
   refine(HAX.out).mono ?_
   rintro e wa ⟨rfl,hba⟩
   clear HAX a0 a1 a2
   have HFA:=Lib.hid (fstep HB.out hba)
   clear hba hown
   have hz:=HR2.out.keep HFA.out
   have y0:=hz.cell (i:=0) rfl
   have y1:=hz.cell (i:=1) rfl
   have y2:=hz.cell (i:=2) rfl
   have y3:=hz.cell (i:=3) rfl
   have y4:=hz.cell (i:=4) rfl
   have u0:=hz.frozen 0
   have u1:=hz.frozen 1
   have u2:=hz.frozen 2
   have u3:=hz.frozen 3
   have u4:=hz.frozen 4
   have hfin:=((((hz.set 0 (.slice none 0 0)).set 1 (.slice none 0 0)).set 2 (.slice none 0 0)).set 3 (.slice none 0 0)).set 4 (.int .i64 0)
   have k0:=hfin.cell (i:=0) rfl
   have k1:=hfin.cell (i:=1) rfl
   have k2:=hfin.cell (i:=2) rfl
   have k3:=hfin.cell (i:=3) rfl
   have k4:=hfin.cell (i:=4) rfl
   clear hz hfin
   go_wp2
   refine bodyPost_ret (v:=.tuple #[.agg #[.slice none 0 0,.slice none 0 0,.slice none 0 0,.slice none 0 0,.int .i64 0],.bool false]) (by simp[results,Tryz.results40,go_sem,k0,k1,k2,k3,k4]) rfl ?_
   rw[soF_no (by rw[HASK.out];rfl)]
   exact⟨_,rfl,zeroSd_own _ _,fset (fset (fset (fset (fset (fstep HF2.out HFA.out) (by omega) _) (by omega) _) (by omega) _) (by omega) _) (by omega) _⟩
 ·have HASK:=Lib.hid hask
  clear hask
  go_enter Tryz.func40,Tryz.ntmps40
  have HOX:=Lib.hid (HOD.out _ (frefl _))
  obtain⟨cb,hcb⟩:∃ b,b=costB P.net fm ds:=⟨_,rfl⟩
  rw[← hcb] at HOX
  go_wp2_with fail
  rw[← HW2.out]
  refine(HOX.out).mono ?_
  rintro e wo ⟨po,co,rfl,hown,hbo⟩
  clear HOX
  have HB:=Lib.hid hbo
  cases cb
  ·clear hbo hown
   have HCB:Hid (costB P.net fm ds=false):=hcb.symm
   clear hcb
   have hz:=HR2.out.keep HB.out
   have y0:=hz.cell (i:=0) rfl
   have y1:=hz.cell (i:=1) rfl
   have y2:=hz.cell (i:=2) rfl
   have y3:=hz.cell (i:=3) rfl
   have y4:=hz.cell (i:=4) rfl
   have u0:=hz.frozen 0
   have u1:=hz.frozen 1
   have u2:=hz.frozen 2
   have u3:=hz.frozen 3
   have u4:=hz.frozen 4
   have hfin:=((((hz.set 0 (.slice none 0 0)).set 1 (.slice none 0 0)).set 2 (.slice none 0 0)).set 3 (.slice none 0 0)).set 4 (.int .i64 0)
   have k0:=hfin.cell (i:=0) rfl
   have k1:=hfin.cell (i:=1) rfl
   have k2:=hfin.cell (i:=2) rfl
   have k3:=hfin.cell (i:=3) rfl
   have k4:=hfin.cell (i:=4) rfl
   clear hz hfin
   go_wp2
   refine bodyPost_ret (v:=.tuple #[.agg #[.slice none 0 0,.slice none 0 0,.slice none 0 0,.slice none 0 0,.int .i64 0],.bool false]) (by simp[results,Tryz.results40,go_sem,k0,k1,k2,k3,k4]) rfl ?_
   rw[soF_no (by rw[HCB.out,Bool.and_false])]
   exact⟨_,rfl,zeroSd_own _ _,fset (fset (fset (fset (fset (fstep HF2.out HB.out) (by omega) _) (by omega) _) (by omega) _) (by omega) _) (by omega) _⟩
  ·have HCB:Hid (costB P.net fm ds=true):=hcb.symm
   clear hcb hbo
   have HAX:=Lib.hid (HAS.out _ HB.out)
   rw[HASK.out] at HAX
   have a0:=(HR1.out.keep HB.out).cell (i:=0) rfl
   have a1:=(HR1.out.keep HB.out).cell (i:=1) rfl
   have a2:=(HR1.out.keep HB.out).cell (i:=2) rfl
   go_wp2_with fail
   refine(HAX.out).mono ?_
   rintro e wa ⟨rfl,hba⟩
   clear HAX a0 a1 a2
   have HFA:=Lib.hid (fstep HB.out hba)
   have hbx:=hba
   clear hba
   have HC9:=Lib.hid (HBY.out _ po co HASK.out HCB.out HFA.out (hown.keep hbx).ints)
   have a0:=(HR1.out.keep HFA.out).cell (i:=0) rfl
   have a1:=(HR1.out.keep HFA.out).cell (i:=1) rfl
   have a2:=(HR1.out.keep HFA.out).cell (i:=2) rfl
   clear hown HBY
   go_wp2_with fail
   refine(HC9.out).mono ?_
   rintro e w9 ⟨v1,rfl,ho,hb⟩
   obtain⟨a0',a1',a2',b0,b1,b2,c0,c1,c2,t0,t1,t2,bk,rfl⟩:=ho.shape
   have HFF:=Lib.hid (fstep HFA.out hb)
   have hz:=HR2.out.keep HFF.out
   have y0:=hz.cell (i:=0) rfl
   have y1:=hz.cell (i:=1) rfl
   have y2:=hz.cell (i:=2) rfl
   have y3:=hz.cell (i:=3) rfl
   have y4:=hz.cell (i:=4) rfl
   have u0:=hz.frozen 0
   have u1:=hz.frozen 1
   have u2:=hz.frozen 2
   have u3:=hz.frozen 3
   have u4:=hz.frozen 4
   have hfin:=((((hz.set 0 (.slice a0' a1' a2')).set 1 (.slice b0 b1 b2)).set 2 (.slice c0 c1 c2)).set 3 (.slice t0 t1 t2)).set 4 (.int .i64 bk)
   have k0:=hfin.cell (i:=0) rfl
   have k1:=hfin.cell (i:=1) rfl
   have k2:=hfin.cell (i:=2) rfl
   have k3:=hfin.cell (i:=3) rfl
   have k4:=hfin.cell (i:=4) rfl
   have HO:=Lib.hid (ho.mono (Nat.le_trans hsz (HFA.out).size))
   have HZ:=Lib.hid hz
   clear ho hz hb hfin a0 a1 a2
   obtain⟨S,hS⟩:∃ S,S=svF P fm ds fit (odL (costL P.net fm ds)):=⟨_,rfl⟩
   have HS:=Lib.hid hS
   rw[← hS] at HO
   clear hS
   go_wp2
   refine bodyPost_ret (v:=.tuple #[.agg #[.slice a0' a1' a2',.slice b0 b1 b2,.slice c0 c1 c2,.slice t0 t1 t2,.int .i64 bk],.bool S.2]) (by simp[results,Tryz.results40,go_sem,k0,k1,k2,k3,k4,HS.out]) rfl ?_
   rw[soF_yes HASK.out HCB.out,← HS.out]
   exact⟨_,rfl,HO.out.box HZ.out,fset (fset (fset (fset (fset (fstep HF2.out HFF.out) (by omega) _) (by omega) _) (by omega) _) (by omega) _) (by omega) _⟩
set_option maxHeartbeats 4000000 in
set_option maxRecDepth 100000 in
theorem specServeInOrder_l (v:Value) (P:PlanV) (v1:Value) (fm:List (Int × Int)) (v2:Value) (ds:List Fib) (fit:Int) (w:World) (h:PlIn w v P) (h1:FmIn w v1 fm) (h2:DmIn w v2 ds) :
  Calls Tryz.prog 39 #[v,v1,v2,.int .i64 fit] w fun e w'=>∃ v',e=.returned (.tuple #[v',.bool (soF P fm ds fit).2])∧SdOwn w' w.heap.size v' (soF P fm ds fit).1∧Fresh w w':=by
 obtain⟨pf,cf,rfl,hfm,hfl⟩:=h1
 obtain⟨pd,cd,rfl,hd,hdl⟩:=h2
 have HPL:=Lib.hid h
 have HPF:=Lib.hid hfm
 have HDS:=Lib.hid hd
 obtain⟨q,m,c,p,k0,e1,r,i0,e0,rfl⟩:=h.shape
 obtain⟨W2,hW2,hsz2,hf2,r1,r2⟩:=two_rows w [.slice q m c,.slice p k0 e1,.slice r i0 e0] [.slice none 0 0,.slice none 0 0,.slice none 0 0,.slice none 0 0,.int .i64 0] 38 42
 have HAS:Hid (∀ W,Fresh W2 W→Calls Tryz.prog 64 #[.agg #[.slice q m c,.slice p k0 e1,.slice r i0 e0],.slice pf fm.length cf,.slice pd ds.length cd,.int .i64 fit] W fun e w'=>e=.returned (.bool (askS P fm ds fit))∧Fresh W w'):=fun W hW=>l11Asked_any _ P pf cf fm pd cd ds fit W (HPL.out.keep (fstep hf2 hW)) (HPF.out.keep (fstep hf2 hW)) hfl (HDS.out.keep (fstep hf2 hW)) hdl
 have HOD:Hid (∀ W,Fresh W2 W→Calls Tryz.prog 80 #[.agg #[.slice q m c,.slice p k0 e1],.slice pf fm.length cf,.slice pd ds.length cd] W fun e w'=>∃ p c,e=.returned (.tuple #[.slice p (odL (costL P.net fm ds)).length c,.bool (costB P.net fm ds)])∧Own w' W.heap.size 3 p ((odL (costL P.net fm ds)).map iv)∧Fresh W w'):=fun W hW=>specOrderDemands_any _ P.net _ fm _ ds W (HPL.out.net.keep (fstep hf2 hW)) ⟨pf,cf,rfl,HPF.out.keep (fstep hf2 hW),hfl⟩ ⟨pd,cd,rfl,HDS.out.keep (fstep hf2 hW),hdl⟩
 have HBY:Hid (∀ W (po:Option Addr) (co:Nat),askS P fm ds fit=true→costB P.net fm ds=true→Fresh W2 W→Ints W po (odL (costL P.net fm ds))→Calls Tryz.prog 76 #[.agg #[.slice q m c,.slice p k0 e1,.slice r i0 e0],.slice pf fm.length cf,.slice pd ds.length cd,.int .i64 fit,.slice po (odL (costL P.net fm ds)).length co] W (OutSa P fm ds fit (odL (costL P.net fm ds)) W)):=fun W po co ha hc hW ho=>by
  obtain⟨ha1,ha2,_,ha4⟩:=askS_us ha
  have hl:=costL_all hc
  exact l11All_any _ P pf cf fm pd cd ds fit po co _ W (HPL.out.keep (fstep hf2 hW)) (HPF.out.keep (fstep hf2 hW)) hfl (HDS.out.keep (fstep hf2 hW)) ha4 ho (by rw[odL_len,hl]) (by rw[← hl];exact odL_bd _) ha1 ha2
 have HF2:=Lib.hid hf2
 have HR1:=Lib.hid r1
 have HR2:=Lib.hid r2
 have HW2:=Lib.hid hW2
 have hsz:=hf2.size
 clear h hfm hd hf2 r1 r2 hW2
 cases hask:askS P fm ds fit
 ·have HASK:=Lib.hid hask
  clear hask
  go_enter Tryz.func39,Tryz.ntmps39
  have HAX:=Lib.hid (HAS.out _ (frefl _))
  rw[HASK.out] at HAX
  go_wp2_with fail
  rw[← HW2.out]
  refine(HAX.out).mono ?_
  rintro e wa ⟨rfl,hba⟩
  clear HAX
  have HB:=Lib.hid hba
  clear hba
  have hz:=HR2.out.keep HB.out
  have y0:=hz.cell (i:=0) rfl
  have y1:=hz.cell (i:=1) rfl
  have y2:=hz.cell (i:=2) rfl
  have y3:=hz.cell (i:=3) rfl
  have y4:=hz.cell (i:=4) rfl
  have u0:=hz.frozen 0
  have u1:=hz.frozen 1
  have u2:=hz.frozen 2
  have u3:=hz.frozen 3
  have u4:=hz.frozen 4
  have hfin:=((((hz.set 0 (.slice none 0 0)).set 1 (.slice none 0 0)).set 2 (.slice none 0 0)).set 3 (.slice none 0 0)).set 4 (.int .i64 0)
  have k0:=hfin.cell (i:=0) rfl
  have k1:=hfin.cell (i:=1) rfl
  have k2:=hfin.cell (i:=2) rfl
  have k3:=hfin.cell (i:=3) rfl
  have k4:=hfin.cell (i:=4) rfl
  clear hz hfin
  go_wp2
  refine bodyPost_ret (v:=.tuple #[.agg #[.slice none 0 0,.slice none 0 0,.slice none 0 0,.slice none 0 0,.int .i64 0],.bool false]) (by simp[results,Tryz.results39,go_sem,k0,k1,k2,k3,k4]) rfl ?_
  rw[soF_no (by rw[HASK.out];rfl)]
  exact⟨_,rfl,zeroSd_own _ _,fset (fset (fset (fset (fset (fstep HF2.out HB.out) (by omega) _) (by omega) _) (by omega) _) (by omega) _) (by omega) _⟩
 ·have HASK:=Lib.hid hask
  clear hask
  go_enter Tryz.func39,Tryz.ntmps39
  have HAX:=Lib.hid (HAS.out _ (frefl _))
  rw[HASK.out] at HAX
  go_wp2_with fail
  rw[← HW2.out]
  refine(HAX.out).mono ?_
  rintro e wa ⟨rfl,hba⟩
  clear HAX
  have HB:=Lib.hid hba
  have HOX:=Lib.hid (HOD.out _ HB.out)
  obtain⟨cb,hcb⟩:∃ b,b=costB P.net fm ds:=⟨_,rfl⟩
  rw[← hcb] at HOX
  have a0:=(HR1.out.keep HB.out).cell (i:=0) rfl
  have a1:=(HR1.out.keep HB.out).cell (i:=1) rfl
  go_wp2_with fail
  refine(HOX.out).mono ?_
  rintro e wo ⟨po,co,rfl,hown,hbo⟩
  clear HOX a0 a1
  have HFO:=Lib.hid (fstep HB.out hbo)
  cases cb
  ·clear hba hbo hown
   have HCB:Hid (costB P.net fm ds=false):=hcb.symm
   clear hcb
   have hz:=HR2.out.keep HFO.out
   have y0:=hz.cell (i:=0) rfl
   have y1:=hz.cell (i:=1) rfl
   have y2:=hz.cell (i:=2) rfl
   have y3:=hz.cell (i:=3) rfl
   have y4:=hz.cell (i:=4) rfl
   have u0:=hz.frozen 0
   have u1:=hz.frozen 1
   have u2:=hz.frozen 2
   have u3:=hz.frozen 3
   have u4:=hz.frozen 4
   have hfin:=((((hz.set 0 (.slice none 0 0)).set 1 (.slice none 0 0)).set 2 (.slice none 0 0)).set 3 (.slice none 0 0)).set 4 (.int .i64 0)
   have k0:=hfin.cell (i:=0) rfl
   have k1:=hfin.cell (i:=1) rfl
   have k2:=hfin.cell (i:=2) rfl
   have k3:=hfin.cell (i:=3) rfl
   have k4:=hfin.cell (i:=4) rfl
   clear hz hfin
   go_wp2
   refine bodyPost_ret (v:=.tuple #[.agg #[.slice none 0 0,.slice none 0 0,.slice none 0 0,.slice none 0 0,.int .i64 0],.bool false]) (by simp[results,Tryz.results39,go_sem,k0,k1,k2,k3,k4]) rfl ?_
   rw[soF_no (by rw[HCB.out,Bool.and_false])]
   exact⟨_,rfl,zeroSd_own _ _,fset (fset (fset (fset (fset (fstep HF2.out HFO.out) (by omega) _) (by omega) _) (by omega) _) (by omega) _) (by omega) _⟩
  ·have HCB:Hid (costB P.net fm ds=true):=hcb.symm
   have hbx:=frefl wo
   clear hcb hba hbo
   have HC9:=Lib.hid (HBY.out _ po co HASK.out HCB.out HFO.out (hown.keep hbx).ints)
   have a0:=(HR1.out.keep HFO.out).cell (i:=0) rfl
   have a1:=(HR1.out.keep HFO.out).cell (i:=1) rfl
   have a2:=(HR1.out.keep HFO.out).cell (i:=2) rfl
   clear hown HBY
   go_wp2_with fail
   refine(HC9.out).mono ?_
   rintro e w9 ⟨v1,rfl,ho,hb⟩
   obtain⟨a0',a1',a2',b0,b1,b2,c0,c1,c2,t0,t1,t2,bk,rfl⟩:=ho.shape
   have HFF:=Lib.hid (fstep HFO.out hb)
   have hz:=HR2.out.keep HFF.out
   have y0:=hz.cell (i:=0) rfl
   have y1:=hz.cell (i:=1) rfl
   have y2:=hz.cell (i:=2) rfl
   have y3:=hz.cell (i:=3) rfl
   have y4:=hz.cell (i:=4) rfl
   have u0:=hz.frozen 0
   have u1:=hz.frozen 1
   have u2:=hz.frozen 2
   have u3:=hz.frozen 3
   have u4:=hz.frozen 4
   have hfin:=((((hz.set 0 (.slice a0' a1' a2')).set 1 (.slice b0 b1 b2)).set 2 (.slice c0 c1 c2)).set 3 (.slice t0 t1 t2)).set 4 (.int .i64 bk)
   have k0:=hfin.cell (i:=0) rfl
   have k1:=hfin.cell (i:=1) rfl
   have k2:=hfin.cell (i:=2) rfl
   have k3:=hfin.cell (i:=3) rfl
   have k4:=hfin.cell (i:=4) rfl
   have HO:=Lib.hid (ho.mono (Nat.le_trans hsz (HFO.out).size))
   have HZ:=Lib.hid hz
   clear ho hz hb hfin a0 a1 a2
   obtain⟨S,hS⟩:∃ S,S=svF P fm ds fit (odL (costL P.net fm ds)):=⟨_,rfl⟩
   have HS:=Lib.hid hS
   rw[← hS] at HO
   clear hS
   go_wp2
   refine bodyPost_ret (v:=.tuple #[.agg #[.slice a0' a1' a2',.slice b0 b1 b2,.slice c0 c1 c2,.slice t0 t1 t2,.int .i64 bk],.bool S.2]) (by simp[results,Tryz.results39,go_sem,k0,k1,k2,k3,k4,HS.out]) rfl ?_
   rw[soF_yes HASK.out HCB.out,← HS.out]
   exact⟨_,rfl,HO.out.box HZ.out,fset (fset (fset (fset (fset (fstep HF2.out HFF.out) (by omega) _) (by omega) _) (by omega) _) (by omega) _) (by omega) _⟩
end Go.Proofs.YteckjlkhopkogaaGreat
