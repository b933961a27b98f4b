/- Contracts: the block that a rule finds, the smallest number that is free: both sides. -/
import Derived.Test.YteckjlkhopkogaaGreatSqP
import Derived.Test.YteckjlkhopkogaaGreatRml
import Derived.Deep.DeepCutAuto
namespace Go.Proofs.YteckjlkhopkogaaGreat
open Go.RowKit Go.PlainAid
set_option maxHeartbeats 2000000 in
set_option maxRecDepth 20000 in
theorem fitting_any (m c fit:Int) (w:World):Calls Tryz.prog 119 #[.int .i64 m, .int .i64 c, .int .i64 fit] w fun e w'=>e = .returned (.tuple #[.agg #[.int .i64 (fitF fit m c).1, .int .i64 (fitF fit m c).2.1], .bool (fitF fit m c).2.2])∧Fresh w w':=by
 obtain ⟨W2,hW2⟩:∃ W,W = w.alloc (.cells #[.int .i64 0, .int .i64 0] 92):=⟨_,rfl⟩
 have hf2:Fresh w W2:=by rw [hW2]; exact fnew (frefl _) _
 have hr2:RowAt W2 w.heap.size 92 [.int .i64 0, .int .i64 0]:=by rw [hW2]; exact RowAt.new _ _ _
 have HC1:=Lib.hid (implFirstFit_any m c W2)
 have HC2:=Lib.hid (implLastFit_any m c W2)
 have HC3:=Lib.hid (implBestFit_any m c W2)
 have HD:Hid (fitF fit m c = if fit = 1 then pickF headI m c else if fit = 2 then pickF lastFi m c else bestF m c):=rfl
 obtain ⟨⟨f1,n1,b1⟩,hr1⟩:∃ r,r = pickF headI m c:=⟨_,rfl⟩
 obtain ⟨⟨f3,n3,b3⟩,hr3⟩:∃ r,r = pickF lastFi m c:=⟨_,rfl⟩
 obtain ⟨⟨f4,n4,b4⟩,hr4⟩:∃ r,r = bestF m c:=⟨_,rfl⟩
 rw [← hr1] at HC1 HD
 rw [← hr3] at HC2 HD
 rw [← hr4] at HC3 HD
 unfold blkRes at HC1 HC2 HC3
 simp only at HC1 HC2 HC3
 have HF2:=Lib.hid hf2
 have HR2:=Lib.hid hr2
 have HW2:=Lib.hid hW2
 have hsz:=hf2.size
 clear hf2 hr2 hW2 hr1 hr3 hr4
 by_cases h1:fit = 1
 ·have g1:(fit == 1) = true:=by simp [h1]
  have HV:Hid (fitF fit m c = (f1,n1,b1)):=by show _ = _; rw [HD.out]; simp [h1]
  rw [HV.out]
  clear h1
  go_enter Tryz.func119,Tryz.ntmps119
  go_wp2_with fail
  rw [← HW2.out]
  refine (HC1.out).mono ?_
  rintro e w1 ⟨rfl,hb⟩
  have hz:=HR2.out.keep hb
  have x0:=hz.cell (i:=0) rfl
  have u0:=hz.frozen 0
  have x1:=hz.cell (i:=1) rfl
  have u1:=hz.frozen 1
  have hfin:=(hz.set 0 (.int .i64 f1)).set 1 (.int .i64 n1)
  have k0:=hfin.cell (i:=0) rfl
  have k1:=hfin.cell (i:=1) rfl
  have HB:=Lib.hid (fstep HF2.out hb)
  clear hz hfin hb HC1 HC2 HC3
  go_wp2
  refine bodyPost_ret (v:=.tuple #[.agg #[.int .i64 f1, .int .i64 n1], .bool b1]) (by simp [results,Tryz.results119,go_sem,k0,k1]) rfl ?_
  exact ⟨rfl,fset (fset HB.out (by omega) _) (by omega) _⟩
 ·by_cases h2:fit = 2
  ·have g1:(fit == 1) = false:=by simp [h1]
   have g2:(fit == 2) = true:=by simp [h2]
   have HV:Hid (fitF fit m c = (f3,n3,b3)):=by show _ = _; rw [HD.out]; simp [h2]
   rw [HV.out]
   clear h1 h2
   go_enter Tryz.func119,Tryz.ntmps119
   go_wp2_with fail
   rw [← HW2.out]
   refine (HC2.out).mono ?_
   rintro e w1 ⟨rfl,hb⟩
   have hz:=HR2.out.keep hb
   have x0:=hz.cell (i:=0) rfl
   have u0:=hz.frozen 0
   have x1:=hz.cell (i:=1) rfl
   have u1:=hz.frozen 1
   have hfin:=(hz.set 0 (.int .i64 f3)).set 1 (.int .i64 n3)
   have k0:=hfin.cell (i:=0) rfl
   have k1:=hfin.cell (i:=1) rfl
   have HB:=Lib.hid (fstep HF2.out hb)
   clear hz hfin hb HC1 HC2 HC3
   go_wp2
   refine bodyPost_ret (v:=.tuple #[.agg #[.int .i64 f3, .int .i64 n3], .bool b3]) (by simp [results,Tryz.results119,go_sem,k0,k1]) rfl ?_
   exact ⟨rfl,fset (fset HB.out (by omega) _) (by omega) _⟩
  ·have g1:(fit == 1) = false:=by simp [h1]
   have g2:(fit == 2) = false:=by simp [h2]
   have HV:Hid (fitF fit m c = (f4,n4,b4)):=by show _ = _; rw [HD.out]; simp [h1,h2]
   rw [HV.out]
   clear h1 h2
   go_enter Tryz.func119,Tryz.ntmps119
   go_wp2_with fail
   rw [← HW2.out]
   refine (HC3.out).mono ?_
   rintro e w1 ⟨rfl,hb⟩
   have hz:=HR2.out.keep hb
   have x0:=hz.cell (i:=0) rfl
   have u0:=hz.frozen 0
   have x1:=hz.cell (i:=1) rfl
   have u1:=hz.frozen 1
   have hfin:=(hz.set 0 (.int .i64 f4)).set 1 (.int .i64 n4)
   have k0:=hfin.cell (i:=0) rfl
   have k1:=hfin.cell (i:=1) rfl
   have HB:=Lib.hid (fstep HF2.out hb)
   clear hz hfin hb HC1 HC2 HC3
   go_wp2
   refine bodyPost_ret (v:=.tuple #[.agg #[.int .i64 f4, .int .i64 n4], .bool b4]) (by simp [results,Tryz.results119,go_sem,k0,k1]) rfl ?_
   exact ⟨rfl,fset (fset HB.out (by omega) _) (by omega) _⟩
set_option maxHeartbeats 2000000 in
set_option maxRecDepth 20000 in
theorem freeId_any (v:Value) (P:PlanV) (w:World) (h:PlIn w v P) (hp:planB P = true):Calls Tryz.prog 126 #[v] w fun e w'=>e = .returned (.int .i64 (idF P.lights))∧Fresh w w':=by
 have HP:=Lib.hid h
 obtain ⟨q,m,c,p,k0,d,r,i0,e0,rfl⟩:=h.shape
 obtain ⟨W2,hW2⟩:∃ W,W = w.alloc (.cells #[.slice q m c, .slice p k0 d, .slice r i0 e0] 38):=⟨_,rfl⟩
 have hf2:Fresh w W2:=by rw [hW2]; exact fnew (frefl _) _
 have hr2:RowAt W2 w.heap.size 38 [.slice q m c, .slice p k0 d, .slice r i0 e0]:=by rw [hW2]; exact RowAt.new _ _ _
 have h12:=(planB_at hp).2.1
 have hle:=(preI_le P.lights 0).2
 have HNEW:Hid (findL P.lights ((preI P.lights 0:Int) + 1) < 0):=findL_none.1 (idF_new (planB_inc hp) (planB_ids hp))
 have HOLD:Hid (∀ k,k < preI P.lights 0→¬ findL P.lights ((k:Int) + 1) < 0):=fun k hk=>idF_old hk
 have HC:Hid (∀ W id,Fresh W2 W→Calls Tryz.prog 52 #[.agg #[.slice q m c, .slice p k0 d, .slice r i0 e0], .int .i64 id] W fun e w'=>e = .returned (.int .i64 (findL P.lights id))∧Fresh W w'):=fun W id hW=>lightAt_any _ P id W (HP.out.keep (fstep hf2 hW))
 have HV:Hid (idF P.lights = (preI P.lights 0:Int) + 1):=rfl
 rw [HV.out]
 obtain ⟨K,hK⟩:∃ k,k = preI P.lights 0:=⟨_,rfl⟩
 rw [← hK] at HNEW HOLD hle ⊢
 have HF2:=Lib.hid hf2
 have HR2:=Lib.hid hr2
 have HW2:=Lib.hid hW2
 have hk12:K ≤ 12:=by omega
 clear h hp hf2 hr2 hW2 hK hle HV h12
 go_enter Tryz.func126,Tryz.ntmps126
 go_wp2
 rw [← HW2.out]
 go_loopw [3] (fun vi wr=>∃ k:Nat,k ≤ K∧vi = .int .i64 ((k:Int) + 1)∧Fresh W2 wr) (fun i _=>20 - (intOf i).toNat)
 case atStart=>exact ⟨0,Nat.zero_le _,by go_num,frefl _⟩
 case round =>
  obtain ⟨k,hk,rfl,hf⟩:=hrel
  have a0:=(HR2.out.keep hf).cell (i:=0) rfl
  have a1:=(HR2.out.keep hf).cell (i:=1) rfl
  have a2:=(HR2.out.keep hf).cell (i:=2) rfl
  have HCK:=Lib.hid (HC.out wr ((k:Int) + 1) hf)
  have HF:=Lib.hid hf
  obtain ⟨f,hfd⟩:∃ f,f = findL P.lights ((k:Int) + 1):=⟨_,rfl⟩
  rw [← hfd] at HCK
  by_cases hlt:k < K
  ·have hge:¬ f < 0:=by rw [hfd]; have:=HOLD.out k hlt; omega
   have hge2:0 ≤ f:=by omega
   have w1:IntKind.i64.wrap ((k:Int) + 1 + 1) = (k:Int) + 1 + 1:=by rw [IntKind.wrap_i64] <;> omega
   clear hf hfd
   go_wp2_with fail
   refine (HCK.out).mono ?_
   rintro e w1 ⟨rfl,hb⟩
   have HB:=Lib.hid (fstep HF.out hb)
   clear hb HCK a0 a1 a2
   go_wp2
   go_roundw
   case rel=>exact ⟨k + 1,by omega,by go_num,HB.out⟩
   case measure=>simp [intOf]; omega
  ·have hke:k = K:=by omega
   have hlt0:f < 0:=by rw [hfd,hke]; exact HNEW.out
   have hge2:¬ 0 ≤ f:=by omega
   have HKE:=Lib.hid hke
   clear hf hfd hke
   go_wp2_with fail
   refine (HCK.out).mono ?_
   rintro e w1 ⟨rfl,hb⟩
   have HB:=Lib.hid (fstep HF.out hb)
   clear hb HCK a0 a1 a2
   go_wp2
   go_ret
   exact ⟨by rw [HKE.out]; rfl,fstep HF2.out HB.out⟩
set_option maxHeartbeats 2000000 in
set_option maxRecDepth 20000 in
theorem l11Id_any (v:Value) (P:PlanV) (w:World) (h:PlIn w v P) (hp:planB P = true):Calls Tryz.prog 123 #[v] w fun e w'=>e = .returned (.int .i64 (idF P.lights))∧Fresh w w':=by
 obtain ⟨q,c,p,d,r,e0,l,rfl,hN,hL,hs,hv,_,_⟩:=h.parts
 have h12:=(planB_at hp).2.1
 have hll:l.length = P.lights.length:=by rw [hv]; simp
 obtain ⟨W2,hW2⟩:∃ W,W = w.alloc (.cells #[.slice q P.net.nodes.length c, .slice p P.net.fibers.length d, .slice r l.length e0] 38):=⟨_,rfl⟩
 have hf2:Fresh w W2:=by rw [hW2]; exact fnew (frefl _) _
 have hr2:RowAt W2 w.heap.size 38 [.slice q P.net.nodes.length c, .slice p P.net.fibers.length d, .slice r l.length e0]:=by rw [hW2]; exact RowAt.new _ _ _
 have hle:=(preI_le P.lights 0).2
 have HAT:Hid (∀ j x,j < preI P.lights 0→l[j]? = some x→x.id = (j:Int) + 1):=by
  intro j x hj hx
  obtain ⟨y,hy,e⟩:=preI_at (L:=P.lights) (k:=0) (j:=j) (by omega)
  rw [hv,List.getElem?_map,hx] at hy
  cases hy
  rw [Nat.zero_add] at e
  exact e
 have HST:Hid (∀ x,l[preI P.lights 0]? = some x→x.id ≠ (preI P.lights 0:Int) + 1):=by
  intro x hx
  refine preI_stop (L:=P.lights) (k:=0) (x:=x.val) ?_
  have e1:P.lights[preI P.lights 0 - 0]? = (l.map LL.val)[preI P.lights 0 - 0]?:=congrArg (fun z:List LtV=>z[preI P.lights 0 - 0]?) hv
  rw [e1,Nat.sub_zero,List.getElem?_map,hx]
  rfl
 have HV:Hid (idF P.lights = (preI P.lights 0:Int) + 1):=rfl
 rw [HV.out]
 obtain ⟨K,hK⟩:∃ k,k = preI P.lights 0:=⟨_,rfl⟩
 rw [← hK] at HAT HST hle ⊢
 have hkl:K ≤ l.length:=by omega
 have hl12:l.length ≤ 12:=by omega
 have HL2:=Lib.hid (hL.keep hf2)
 have HF2:=Lib.hid hf2
 have HR2:=Lib.hid hr2
 have HW2:=Lib.hid hW2
 clear h hp hf2 hr2 hW2 hK hle HV h12 hll hv hL hs
 go_enter Tryz.func123,Tryz.ntmps123
 go_wp2
 rw [← HW2.out]
 go_loopw [3,4] (fun vi vj wr=>∃ k:Nat,k ≤ K∧vi = .int .i64 ((k:Int) + 1)∧vj = .int .i64 (k:Int)∧Fresh W2 wr) (fun _ j _=>20 - (intOf j).toNat)
 case atStart=>exact ⟨0,Nat.zero_le _,by go_num,rfl,frefl _⟩
 case round =>
  obtain ⟨k,hk,rfl,rfl,hf⟩:=hrel
  have a2:=(HR2.out.keep hf).cell (i:=2) rfl
  have HF:=Lib.hid hf
  by_cases hlt:k < l.length
  ·obtain ⟨b,off,x,hrr,hx,_,_,c0,_,_,_,_⟩:=(HL2.out.keep hf).at hlt
   have hltz:(k:Int) < (l.length:Int):=by omega
   subst hrr
   by_cases hkk:k < K
   ·have he:=HAT.out k x hkk hx
    have hxe:(x.id == (k:Int) + 1) = true:=by simp [he]
    have w1:IntKind.i64.wrap ((k:Int) + 1 + 1) = (k:Int) + 1 + 1:=by rw [IntKind.wrap_i64] <;> omega
    clear hx he hf
    go_wp2
    go_roundw
    case rel=>exact ⟨k + 1,by omega,by go_num,by go_num,HF.out⟩
    case measure=>simp [intOf]; omega
   ·have hke:k = K:=by omega
    have hne:(x.id == (k:Int) + 1) = false:=by
     rw [hke]
     rw [hke] at hx
     simpa using HST.out x hx
    have HKE:=Lib.hid hke
    clear hx hf hke
    go_wp2
    go_ret
    exact ⟨by rw [HKE.out]; rfl,fstep HF2.out HF.out⟩
  ·have hltz:¬ (k:Int) < (l.length:Int):=by omega
   have hke:k = K:=by omega
   have HKE:=Lib.hid hke
   clear hf hke
   go_wp2
   go_ret
   exact ⟨by rw [HKE.out]; rfl,fstep HF2.out HF.out⟩
end Go.Proofs.YteckjlkhopkogaaGreat
