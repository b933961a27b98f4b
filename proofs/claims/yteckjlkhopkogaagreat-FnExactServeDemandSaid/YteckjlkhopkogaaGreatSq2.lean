/- Contracts: the lights that serving a demand considers, the program's side. -/
import Derived.Test.YteckjlkhopkogaaGreatSq
import Derived.Test.YteckjlkhopkogaaGreatKLt
import Derived.Test.YteckjlkhopkogaaGreatY3
import Derived.BigRegion
namespace Go.Proofs.YteckjlkhopkogaaGreat
open Go.RowKit Go.PlainAid
set_option maxHeartbeats 2000000 in
theorem insC0_any (p:Option Addr) (c:Nat) (w:World) :
  Calls Tryz.prog 217 #[.slice p 0 c, .int .i64 0, .int .i64 0, .func (.func 168) #[] #[]] w fun e w'=>e = .returned (.tuple #[])∧w' = w:=by
 go_enter Tryz.func217,Tryz.ntmps217
 go_wp2
 go_loopw [8] (fun vi wr=>vi = .int .i64 (1:Int)∧wr = w) (fun _ _=>0)
 case atStart=>exact ⟨by go_num,rfl⟩
 case round =>
  obtain ⟨rfl,rfl⟩:=hrel
  go_wp2
  refine bodyPost_end (results_none rfl _ _ _) rfl ?_
  exact ⟨rfl,rfl⟩
set_option maxHeartbeats 2000000 in
theorem stableC0_any (p:Option Addr) (c:Nat) (w:World) :
  Calls Tryz.prog 196 #[.slice p 0 c, .int .i64 0, .func (.func 168) #[] #[]] w fun e w'=>e = .returned (.tuple #[])∧w' = w:=by
 have HSO:=Lib.hid (insC0_any p c w)
 go_enter Tryz.func196,Tryz.ntmps196
 go_wp2
 go_loopw [7,8] (fun va vb wr=>va = .int .i64 (0:Int)∧vb = .int .i64 (20:Int)∧wr = w) (fun _ _ _=>0)
 case atStart=>exact ⟨rfl,rfl,rfl⟩
 case round =>
  obtain ⟨rfl,rfl,rfl⟩:=hrel
  go_wp2_with fail
  refine (HSO.out).mono ?_
  rintro e W1 ⟨rfl,rfl⟩
  go_wp2
  go_loopw [6] (fun vq wr2=>vq = .int .i64 (20:Int)∧wr2 = W1) (fun _ _=>0)
  case atStart=>exact ⟨rfl,rfl⟩
  case round =>
   obtain ⟨rfl,rfl⟩:=hrel
   go_wp2
   refine bodyPost_end (results_none rfl _ _ _) rfl ?_
   exact ⟨rfl,rfl⟩
set_option maxHeartbeats 2000000 in
theorem sortC0_any (p:Option Addr) (c:Nat) (w:World) :
  Calls Tryz.prog 167 #[.slice p 0 c, .func (.func 168) #[] #[]] w fun e w'=>e = .returned (.tuple #[])∧w' = w:=by
 have HS:=Lib.hid (stableC0_any p c w)
 go_enter Tryz.func167,Tryz.ntmps167
 go_wp2_with fail
 refine (HS.out).mono ?_
 rintro e W1 ⟨rfl,rfl⟩
 go_wp2
 refine bodyPost_end (results_none rfl _ _ _) rfl ?_
 exact ⟨rfl,rfl⟩
set_option maxHeartbeats 2000000 in
theorem byCost0_any (p:Option Addr) (c:Nat) (w:World):Calls Tryz.prog 118 #[.slice p 0 c] w fun e w'=>e = .returned (.slice p 0 c)∧w' = w:=by
 have HS:=Lib.hid (sortC0_any p c w)
 go_enter Tryz.func118,Tryz.ntmps118
 go_wp2_with fail
 refine (HS.out).mono ?_
 rintro e W1 ⟨rfl,rfl⟩
 go_wp2
 refine bodyPost_ret (v:=.slice p 0 c) (by simp [results,Tryz.results118,go_sem]) rfl ?_
 exact ⟨rfl,rfl⟩
theorem ordH_nil:ordH [] = []:=rfl
set_option maxHeartbeats 2000000 in
set_option maxRecDepth 20000 in
theorem byCostK_any (w0:World) (p:Option Addr) (c:Nat) (l:List CH) (w:World) (h:Chs w w0.heap.size (.slice p l.length c) l) (hf:Fresh w0 w) (hne:0 < l.length) (hl:l.length ≤ 1048576) (hk:∀ x ∈ l,0 ≤ x.k∧x.k ≤ 24∧x.r.fibs.length ≤ 1048576) :
  Calls Tryz.prog 118 #[.slice p l.length c] w fun e w'=>e = .returned (.slice p l.length c)∧Chs w' w0.heap.size (.slice p l.length c) (ordH l)∧Fresh w0 w'∧∀ h t cs,RowAt w h t cs→t ≠ 150→RowAt w' h t cs:=by
 obtain ⟨g,sp,rfl,hg,hr,hnc,hcm,hlen⟩:=owns_rowC h.row hne
 have hD:∀ i,CvOk (dOf l i):=by
  intro i
  unfold dOf
  rcases Nat.lt_or_ge i l.length with hi | hi
  ·rw [List.getD_eq_getElem?_getD,List.getElem?_eq_getElem hi]
   exact hk _ (List.getElem_mem hi)
  ·rw [List.getD_eq_getElem?_getD,List.getElem?_eq_none hi]
   exact ⟨Int.le_refl _,by decide,by decide⟩
 have hs:=sortStable_any g c l.length (dOf l) (cfV (dOf l)) (swo_cfV _) (byCostClo_any _ hD) sp w (by rw [rowC_id]; exact hr) hl
 have HS:=Lib.hid hs
 have HH:=Lib.hid h
 have HF:=Lib.hid hf
 have HR:=Lib.hid hr
 have HL:=Lib.hid hlen
 clear hs h hf hk hD hr hlen
 go_enter Tryz.func118,Tryz.ntmps118
 go_wp2_with fail
 refine (HS.out).mono ?_
 rintro e W1 ⟨rfl,h1,h2⟩
 have HR1:=Lib.hid h1
 have HS1:=Lib.hid h2
 clear h1 h2 HS
 go_wp2
 refine bodyPost_ret (v:=.slice (some ⟨g,0,none⟩) l.length c) (by simp [results,Tryz.results118,go_sem]) rfl ?_
 have hr1:=HR1.out
 rw [rowC_ord] at hr1
 have e3:((ordH l).flatMap chC).length = l.length * 3:=by rw [flat_len chC 3 (fun _=>rfl),ordH_len]
 have e4:(l.flatMap chC).length = l.length * 3:=flat_len chC 3 (fun _=>rfl) l
 have hlen:=HL.out
 rw [List.length_append,e4] at hlen
 have hkp:∀ h t cs,RowAt w h t cs→t ≠ 150→RowAt W1 h t cs:=fun a t cs q1 q2=>HS1.out.1 a t cs q1 fun e=>by subst e; exact q2 (q1.inj HR.out).1
 refine ⟨rfl,⟨?_,fun x hx=>(HH.out.fib x (ordL_mem hx)).grown hkp (by decide),HH.out.dist.ord,fun x hx=>HH.out.cap x (ordL_mem hx)⟩,HS1.out.2 w0 HF.out hg,hkp⟩
 rw [ordH_len]
 exact row_ownsC hg hr1 hnc hcm (by rw [List.length_append,e3]; exact hlen) e3
theorem byCost_all (w0:World) (p:Option Addr) (c:Nat) (l:List CH) (w:World) (h:Chs w w0.heap.size (.slice p l.length c) l) (hf:Fresh w0 w) (hl:l.length ≤ 1048576) (hk:∀ x ∈ l,0 ≤ x.k∧x.k ≤ 24∧x.r.fibs.length ≤ 1048576) :
  Calls Tryz.prog 118 #[.slice p l.length c] w fun e w'=>e = .returned (.slice p l.length c)∧Chs w' w0.heap.size (.slice p l.length c) (ordH l)∧Fresh w0 w'∧∀ h t cs,RowAt w h t cs→t ≠ 150→RowAt w' h t cs:=by
 rcases Nat.eq_zero_or_pos l.length with hz | hz
 ·have hl0:l = []:=List.eq_nil_of_length_eq_zero hz
  subst hl0
  refine (byCost0_any p c w).mono ?_
  rintro e w' ⟨rfl,rfl⟩
  exact ⟨rfl,by rw [ordH_nil]; exact h,hf,fun _ _ _ h _=>h⟩
 ·exact byCostK_any w0 p c l w h hf hz hl hk
/-- Lights in a row of the call's own. -/
structure Lso (w:World) (base:Nat) (V:Value) (l:List LL):Prop where
 row:w.ownsRow base 94 5 V l.length (l.flatMap llC)
 fib:∀ x ∈ l,Own w base 3 x.r.q (x.r.fibs.map iv)
 dist:DistL l
theorem Lso.keep {w w':World} {base:Nat} {V:Value} {l:List LL} (h:Lso w base V l) (hb:Fresh w w'):Lso w' base V l:=⟨ownsRow_keep h.row hb,fun x hx=>(h.fib x hx).keep hb,h.dist⟩
theorem Lso.mono {w:World} {base base':Nat} {V:Value} {l:List LL} (h:Lso w base V l) (hb:base' ≤ base):Lso w base' V l:=⟨owns_mono h.row hb,fun x hx=>(h.fib x hx).mono hb,h.dist⟩
theorem Lso.nil (w:World) (base:Nat) {V:Value} (h:w.ownsRow base 94 5 V 0 []):Lso w base V []:=⟨h,(fun x hx=>by cases hx),(fun i j x y _ hx=>by simp at hx)⟩
/-- The light of a choice with its block. -/
def ltOf (fit:Int) (L:List LtV) (x:CH):List LL:=if (fitF fit (alongN L x.r.fibs:Int) x.k).2.2 = true then [⟨0,x.r,(fitF fit (alongN L x.r.fibs:Int) x.k).1,(fitF fit (alongN L x.r.fibs:Int) x.k).2.1⟩] else []
def ltsOf (fit:Int) (L:List LtV) (l:List CH):List LL:=l.flatMap (ltOf fit L)
theorem ltsOf_val (fit:Int) (L:List LtV) (l:List CH):(ltsOf fit L l).map LL.val = consTo L fit (l.map CH.val):=by
 unfold ltsOf consTo
 rw [List.map_flatMap,List.flatMap_map]
 congr 1
 funext x
 show (ltOf fit L x).map LL.val = consC L fit x.val
 unfold ltOf consC
 simp only
 split <;> rfl
theorem ltsOf_snoc (fit:Int) (L:List LtV) (l:List CH) (x:CH):ltsOf fit L (l ++ [x]) = ltsOf fit L l ++ ltOf fit L x:=by unfold ltsOf; rw [List.flatMap_append]; simp
theorem ltsOf_mem {fit:Int} {L:List LtV} {l:List CH} {y:LL} (h:y ∈ ltsOf fit L l):∃ x ∈ l,y.r = x.r:=by
 obtain ⟨x,hx,hy⟩:=List.mem_flatMap.1 h
 unfold ltOf at hy
 split at hy
 ·rw [List.mem_singleton] at hy
  exact ⟨x,hx,by rw [hy]⟩
 ·cases hy
theorem ltsOf_len (fit:Int) (L:List LtV):∀ l:List CH,(ltsOf fit L l).length ≤ l.length
 | []=>Nat.le_refl _
 | x :: l=>by
  have h1:=ltsOf_len fit L l
  have h2:(ltOf fit L x).length ≤ 1:=by unfold ltOf; split <;> simp
  unfold ltsOf at h1 ⊢
  rw [List.flatMap_cons,List.length_append,List.length_cons]; omega
theorem ltsOf_dist (fit:Int) (L:List LtV):∀ {l:List CH},DistR (l.map CH.r)→DistL (ltsOf fit L l):=by
 have pw:∀ l:List LL,DistL l ↔ l.Pairwise fun x y=>∀ g o h o',x.r.q = some ⟨g,o,none⟩→y.r.q = some ⟨h,o',none⟩→g ≠ h:=by
  intro l
  rw [List.pairwise_iff_getElem]
  constructor
  ·intro h i j hi hj hij
   exact h i j l[i] l[j] (by omega) (List.getElem?_eq_getElem hi) (List.getElem?_eq_getElem hj)
  ·intro h i j x y hij hx hy g o g' o' e1 e2
   obtain ⟨hi,rfl⟩:=List.getElem?_eq_some_iff.1 hx
   obtain ⟨hj,rfl⟩:=List.getElem?_eq_some_iff.1 hy
   rcases Nat.lt_or_gt_of_ne hij with h1 | h1
   ·exact h i j hi hj h1 g o g' o' e1 e2
   ·exact (h j i hj hi h1 g' o' g o e2 e1).symm
 intro l h
 rw [pw]
 have h2:=DistR.pw.1 h
 clear h
 induction l with
 | nil=>exact List.Pairwise.nil
 | cons x l ih =>
  rw [List.map_cons,List.pairwise_cons] at h2
  have ih2:=ih h2.2
  unfold ltsOf at ih2 ⊢
  rw [List.flatMap_cons,List.pairwise_append]
  refine ⟨?_,ih2,fun a ha b hb=>?_⟩
  ·unfold ltOf
   split
   ·exact List.pairwise_singleton _ _
   ·exact List.Pairwise.nil
  ·have e1:a.r = x.r:=by
    unfold ltOf at ha
    split at ha
    ·rw [List.mem_singleton.1 ha]
    ·cases ha
   obtain ⟨z,hz,e2⟩:=ltsOf_mem (fit:=fit) (L:=L) (l:=l) hb
   rw [e1,e2]
   exact h2.1 z.r (List.mem_map_of_mem hz)
theorem kq_33 {w1 w2:World} {a b:Nat} {u0 u1 u2 v0 v1 v2:Value} (h:w1.cell? ⟨a,0,none⟩ = some u0∧w1.cell? ⟨a,1,none⟩ = some u1∧w1.cell? ⟨a,2,none⟩ = some u2∧w1.cell? ⟨b,0,none⟩ = some v0∧w1.cell? ⟨b,1,none⟩ = some v1∧w1.cell? ⟨b,2,none⟩ = some v2) (hb:Fresh w1 w2) :
  w2.cell? ⟨a,0,none⟩ = some u0∧w2.cell? ⟨a,1,none⟩ = some u1∧w2.cell? ⟨a,2,none⟩ = some u2∧w2.cell? ⟨b,0,none⟩ = some v0∧w2.cell? ⟨b,1,none⟩ = some v1∧w2.cell? ⟨b,2,none⟩ = some v2 :=
 ⟨fkeep hb h.1,fkeep hb h.2.1,fkeep hb h.2.2.1,fkeep hb h.2.2.2.1,fkeep hb h.2.2.2.2.1,fkeep hb h.2.2.2.2.2⟩
theorem Chs.typ {w w':World} {base:Nat} {V:Value} {l:List CH} (h:Chs w base V l) (hk:∀ g t cs,RowAt w g t cs→t ≠ 94→RowAt w' g t cs):Chs w' base V l :=
 ⟨ownsRow_typ h.row hk (by decide),fun x hx=>(h.fib x hx).grown hk (by decide),h.dist,h.cap⟩
def OutK (P:PlanV) (fm:List (Int × Int)) (d:Fib) (fit:Int) (w:World) (e:Ending) (w':World):Prop:=∃ (V:Value) (l:List LL),e = .returned (.tuple #[V, .bool (usOk P.net fm d)])∧Lso w' w.heap.size V l∧l.map LL.val = consL P fm d fit∧Fresh w w'
theorem consL_no {P:PlanV} {fm:List (Int × Int)} {d:Fib} {fit:Int} (h:usOk P.net fm d = false):consL P fm d fit = []:=by unfold consL; rw [usF_no h]; rfl
theorem PlIn.net {w:World} {P:PlanV} {q p r:Option Addr} {m c k d i e:Nat} (h:PlIn w (.agg #[.slice q m c, .slice p k d, .slice r i e]) P):NetIn w (.agg #[.slice q m c, .slice p k d]) P.net:=by
 obtain ⟨q',m',c',p',k',d',r',e',l,h1,h2,_⟩:=h
 simp only [Value.agg.injEq] at h1
 have e1:=congrArg (fun a:Array Value=>a[0]?) h1
 have e2:=congrArg (fun a:Array Value=>a[1]?) h1
 simp at e1 e2
 obtain ⟨rfl,rfl,rfl⟩:=e1
 obtain ⟨rfl,rfl,rfl⟩:=e2
 exact h2
theorem outK_no {P:PlanV} {fm:List (Int × Int)} {d:Fib} {fit:Int} {w w':World} (h:usOk P.net fm d = false) (hf:Fresh w w'):OutK P fm d fit w (.returned (.tuple #[.slice none 0 0, .bool false])) w' :=
 ⟨_,[],by rw [h],Lso.nil _ _ ⟨rfl,Or.inl ⟨rfl,rfl⟩⟩,by rw [consL_no h]; rfl,hf⟩
set_option maxHeartbeats 8000000 in
set_option maxRecDepth 100000 in
theorem considered_any (v:Value) (P:PlanV) (pf:Option Addr) (cf:Nat) (fm:List (Int × Int)) (d:Fib) (fit:Int) (w:World) (h:PlIn w v P) (hfm:Prs w pf fm) (hfl:fm.length ≤ 1048576) (hp:planB P = true) :
  Calls Tryz.prog 69 #[v, .slice pf fm.length cf,fibV d, .int .i64 fit] w (OutK P fm d fit w):=by
 have HPL:=Lib.hid h
 have HPF:=Lib.hid hfm
 obtain ⟨q,m,c,p,k0,e1,r,i0,e0,rfl⟩:=h.shape
 obtain ⟨W2,hW2,hsz2,hf2,r1,r2⟩:=two_rows w [.slice q m c, .slice p k0 e1, .slice r i0 e0] [.int .i64 d.a, .int .i64 d.b, .int .i64 d.len, .int .i64 d.risk] 38 59
 have HU:=Lib.hid (usable_any (.agg #[.slice q m c, .slice p k0 e1]) P.net pf cf fm d W2 (HPL.out.net.keep hf2) (HPF.out.keep hf2) hfl)
 have HF2:=Lib.hid hf2
 have HR1:=Lib.hid r1
 have HW2:=Lib.hid hW2
 have HRM:Hid (∀ W (x:LR),Fresh W2 W→Ints W x.q x.fibs→x.fibs.length ≤ 1048576→(∀ i ∈ x.fibs,0 ≤ i∧i < (P.net.fibers.length:Int))→Calls Tryz.prog 120 #[.agg #[.slice q m c, .slice p k0 e1, .slice r i0 e0], .agg #[.int .i64 x.start, .slice x.q x.fibs.length x.cap]] W fun e w'=>e = .returned (.int .i64 (alongN P.lights x.fibs:Int))∧Fresh W w'):=fun W x hW hI hl hb=>routeMask_any _ P _ (x.start,x.fibs) W (HPL.out.keep (fstep hf2 hW)) ⟨x.start,x.q,x.cap,x.fibs,rfl,hI,hl,rfl⟩ hp hb
 have hsz:=hf2.size
 clear h hfm hf2 r1 r2 hW2 hp
 go_enter Tryz.func69,Tryz.ntmps69
 go_wp2_with fail
 rw [← HW2.out]
 refine (HU.out).mono ?_
 rintro e w3 ⟨V,l,rfl,hc,hv,hf⟩
 have HF3:=Lib.hid hf
 cases hok:usOk P.net fm d
 ·have HNO:=Lib.hid hok
  clear hok hf hc HU
  go_wp2
  go_ret2
  exact outK_no HNO.out (fstep HF2.out HF3.out)
 have HOK:=Lib.hid hok
 obtain ⟨pc,cc,rfl,_,_,_⟩:=owns_cap hc.row
 have hll:=ch_len hv
 have HFIT:=Lib.hid (chs_fit hv hok)
 obtain ⟨W4,hW4⟩:∃ W,W = w3.alloc (.cells #[] 94):=⟨_,rfl⟩
 have hf4:Fresh w3 W4:=by rw [hW4]; exact fnew (frefl _) _
 have HRO:Hid (RowAt W4 w3.heap.size 94 []):=by show RowAt _ _ _ _; rw [hW4]; exact RowAt.new _ _ _
 have HBC:=Lib.hid (byCost_all W2 pc cc l W4 (hc.keep hf4) (fstep hf hf4) (by omega) HFIT.out)
 have HV:=Lib.hid hv
 have HW4:=Lib.hid hW4
 have hsz3:=hf.size
 clear hc hv hf hf4 hok hW4 HU
 go_wp2_with fail
 rw [← HW4.out]
 refine (HBC.out).mono ?_
 rintro e w5 ⟨rfl,hc5,hf5,hk5⟩
 obtain ⟨M,hM⟩:∃ M,M = ordH l:=⟨_,rfl⟩
 rw [← hM] at hc5
 have hMl:M.length = l.length:=by rw [hM,ordH_len]
 have HMV:Hid (M.map CH.val = ordV (usF P.net fm d).1):=by show _ = _; rw [hM,ordH_val,HV.out]
 have HMF:Hid (∀ x ∈ M,0 ≤ x.k∧x.k ≤ 24∧x.r.fibs.length ≤ 1048576):=fun x hx=>by rw [hM] at hx; exact HFIT.out x (ordL_mem (K:=kCH) (d:=dCH) hx)
 have HMR:Hid (∀ x ∈ M,∀ i ∈ x.r.fibs,0 ≤ i∧i < (P.net.fibers.length:Int)):=by
  intro x hx
  have h1:x.val ∈ ordV (usF P.net fm d).1:=by rw [← HMV.out]; exact List.mem_map_of_mem (f:=CH.val) hx
  exact (us_mem (ordV_mem h1)).2.2.2.2.2.2
 have HRO5:Hid (w5.ownsRow W2.heap.size 94 5 (.slice (some ⟨w3.heap.size,0,none⟩) 0 0) 0 []):=ownsRow_zero (hk5 _ _ _ HRO.out (by decide)) hsz3
 have HC5:=Lib.hid hc5
 have HF5:=Lib.hid hf5
 have hMl2:=hMl
 have HML:=Lib.hid hMl
 clear hc5 hf5 hk5 hM HBC HRO HV HFIT hMl2 hMl
 go_wp2
 go_loopw [12,31] (fun o i wr=>∃ j:Nat,j ≤ l.length∧i = .int .i64 j∧wr.ownsRow W2.heap.size 94 5 o (ltsOf fit P.lights (M.take j)).length ((ltsOf fit P.lights (M.take j)).flatMap llC)∧Chs wr W2.heap.size (.slice pc l.length cc) M∧Fresh W2 wr) (fun _ i _=>l.length - (intOf i).toNat)
 case atStart=>exact ⟨0,Nat.zero_le _,rfl,HRO5.out,HC5.out,HF5.out⟩
 case round =>
  obtain ⟨j,hj,rfl,hown,hch,hf⟩:=hrel
  clear HRO5 HC5 HF5
  by_cases hlt:j < l.length
  ·have hltz:(j:Int) < (l.length:Int):=by omega
   have hch2:=hch
   rw [← HML.out] at hch2
   obtain ⟨g,x,hpe,hx,hm,c0,c1,c2⟩:=chs_at hch2 (by rw [HML.out]; exact hlt)
   subst hpe
   have HTK:Hid (M.take (j + 1) = M.take j ++ [x]):=by show _ = _; rw [List.take_add_one,hx]; rfl
   obtain ⟨W5,hW5⟩:∃ W,W = wr.alloc (.cells #[.int .i64 x.r.start, .slice x.r.q x.r.fibs.length x.r.cap, .int .i64 x.k] 150):=⟨_,rfl⟩
   have hf5:Fresh wr W5:=by rw [hW5]; exact fnew (frefl _) _
   have hr5:RowAt W5 wr.heap.size 150 [.int .i64 x.r.start, .slice x.r.q x.r.fibs.length x.r.cap, .int .i64 x.k]:=by rw [hW5]; exact RowAt.new _ _ _
   have HF6:=Lib.hid (fstep hf hf5)
   have HO:=Lib.hid (ownsRow_keep hown hf5)
   have HCH:=Lib.hid (hch.keep hf5)
   have HBX:=Lib.hid hr5
   have hI:=((hch.keep hf5).fib x hm).ints
   have hxl:=(HMF.out x hm).2.2
   have HRMX:Hid (∀ W,Fresh W5 W→Calls Tryz.prog 120 #[.agg #[.slice q m c, .slice p k0 e1, .slice r i0 e0], .agg #[.int .i64 x.r.start, .slice x.r.q x.r.fibs.length x.r.cap]] W fun e w'=>e = .returned (.int .i64 (alongN P.lights x.r.fibs:Int))∧Fresh W w'):=fun W hW=>HRM.out W x.r (fstep HF6.out hW) (hI.keep hW) hxl (HMR.out x hm)
   obtain ⟨⟨bf,bn,bb⟩,hb⟩:∃ z,z = fitF fit (alongN P.lights x.r.fibs:Int) x.k:=⟨_,rfl⟩
   have HFT:Hid (∀ W,Calls Tryz.prog 119 #[.int .i64 (alongN P.lights x.r.fibs:Int), .int .i64 x.k, .int .i64 fit] W fun e w'=>e = .returned (.tuple #[.agg #[.int .i64 bf, .int .i64 bn], .bool bb])∧Fresh W w'):=fun W=>by
    have:=fitting_any (alongN P.lights x.r.fibs:Int) x.k fit W
    rwa [← hb] at this
   have HLT:Hid (ltOf fit P.lights x = if bb = true then [⟨0,x.r,bf,bn⟩] else []):=by show _ = _; unfold ltOf; rw [← hb]
   obtain ⟨mk,hmk⟩:∃ z:Int,z = (alongN P.lights x.r.fibs:Int):=⟨_,rfl⟩
   rw [← hmk] at HRMX HFT
   obtain ⟨I,hIe⟩:∃ I,I = ltsOf fit P.lights (M.take j):=⟨_,rfl⟩
   have hil:I.length ≤ 1048576:=by
    have h1:=ltsOf_len fit P.lights (M.take j)
    rw [← hIe,List.length_take] at h1
    omega
   rw [← hIe] at HO
   have HIE:=Lib.hid hIe
   have HSS:W5.cell? ⟨w.heap.size,0,none⟩ = some (.slice q m c)∧W5.cell? ⟨w.heap.size,1,none⟩ = some (.slice p k0 e1)∧W5.cell? ⟨w.heap.size,2,none⟩ = some (.slice r i0 e0)∧W5.cell? ⟨wr.heap.size,0,none⟩ = some (.int .i64 x.r.start)∧W5.cell? ⟨wr.heap.size,1,none⟩ = some (.slice x.r.q x.r.fibs.length x.r.cap)∧W5.cell? ⟨wr.heap.size,2,none⟩ = some (.int .i64 x.k) :=
    ⟨(HR1.out.keep HF6.out).cell (i:=0) rfl,(HR1.out.keep HF6.out).cell (i:=1) rfl,(HR1.out.keep HF6.out).cell (i:=2) rfl,hr5.cell (i:=0) rfl,hr5.cell (i:=1) rfl,hr5.cell (i:=2) rfl⟩
   have HW5:=Lib.hid hW5
   clear hx hf5 hr5 hW5 hown hch hch2 hf hI hb hmk hIe hm
   go_wp2
   rw [← HW5.out]
   clear c0 c1 c2
   refine hd_start (n:=13) (S:=fun w'=>w'.cell? ⟨w.heap.size,0,none⟩ = some (.slice q m c)∧w'.cell? ⟨w.heap.size,1,none⟩ = some (.slice p k0 e1)∧w'.cell? ⟨w.heap.size,2,none⟩ = some (.slice r i0 e0)∧w'.cell? ⟨wr.heap.size,0,none⟩ = some (.int .i64 x.r.start)∧w'.cell? ⟨wr.heap.size,1,none⟩ = some (.slice x.r.q x.r.fibs.length x.r.cap)∧w'.cell? ⟨wr.heap.size,2,none⟩ = some (.int .i64 x.k)) (by kernel_rfl) (by kernel_rfl) (kq_33 HSS (fdrew (frefl _))) (fun hHeld=>?_)
   obtain ⟨Wz,hWz⟩:∃ W,W = W5.drew:=⟨_,rfl⟩
   rw [← hWz] at hHeld ⊢
   have f0:Fresh W5 Wz:=by rw [hWz]; exact fdrew (frefl _)
   clear hWz
   refine hd_tk (i:=0) (v:=?_) rfl ?_ ?_
   rotate_left
   ·(intro w hSw; (try dsimp only at hSw); go_simp; first | done | with_reducible rfl)
   try simp only [PU]
   refine hd_tk (i:=1) (v:=?_) rfl ?_ ?_
   rotate_left
   ·(intro w hSw; (try dsimp only at hSw); go_simp; first | done | with_reducible rfl)
   try simp only [PU]
   refine hd_tk (i:=2) (v:=?_) rfl ?_ ?_
   rotate_left
   ·(intro w hSw; (try dsimp only at hSw); go_simp; first | done | with_reducible rfl)
   try simp only [PU]
   refine hd_tk (i:=4) (v:=?_) rfl ?_ ?_
   rotate_left
   ·(intro w hSw; (try dsimp only at hSw); go_simp; first | done | with_reducible rfl)
   try simp only [PU]
   refine hd_tk (i:=5) (v:=?_) rfl ?_ ?_
   rotate_left
   ·(intro w hSw; (try dsimp only at hSw); go_simp; first | done | with_reducible rfl)
   try simp only [PU]
   refine hd_tk (i:=6) (v:=?_) rfl ?_ ?_
   rotate_left
   ·(intro w hSw; (try dsimp only at hSw); go_simp; first | done | with_reducible rfl)
   try simp only [PU]
   refine hd_ready (rs:=[3,11]) (by kernel_rfl) (by simp) ?_
   refine hd_cons (i:=3) rfl (by kernel_rfl) (fun K hK=>?_) ?_
   focus
    go_simp
    go_at_call 120
    refine (HRMX.out _ f0).mono ?_
    rintro e wk1 ⟨rfl,hb⟩
    have f1:=fstep f0 hb
    clear hb
    go_wp2_with fail
    refine hK.out _ _ ?_ (fun hHeld=>?_)
    ·exact kq_33 HSS f1
    clear hK K
    try simp only [PU]
    refine hd_ready (rs:=[7,11]) (by kernel_rfl) (by simp) ?_
    refine hd_cons (i:=7) rfl (by kernel_rfl) (fun K hK=>?_) ?_
    focus
     go_simp
     go_at_call 119
     refine (HFT.out _).mono ?_
     rintro e wk2 ⟨rfl,hb⟩
     have f2:=fstep f1 hb
     clear hb
     go_wp2_with fail
     refine hK.out _ _ ?_ (fun hHeld=>?_)
     ·exact kq_33 HSS f2
     clear hK K
     try simp only [PU]
     refine hd_tk (i:=8) (v:=?_) rfl ?_ ?_
     rotate_left
     ·(intro w hSw; (try dsimp only at hSw); go_simp; first | done | with_reducible rfl)
     try simp only [PU]
     refine hd_tk (i:=9) (v:=?_) rfl ?_ ?_
     rotate_left
     ·(intro w hSw; (try dsimp only at hSw); go_simp; first | done | with_reducible rfl)
     try simp only [PU]
     refine hd_tk (i:=10) (v:=?_) rfl ?_ ?_
     rotate_left
     ·(intro w hSw; (try dsimp only at hSw); go_simp; first | done | with_reducible rfl)
     try simp only [PU]
     refine hd_one (i:=11) rfl (by kernel_rfl) (by kernel_rfl) (fun K hK=>?_)
     go_simp
     obtain ⟨wl,hwa⟩:∃ W,W = wk2.alloc (.cells #[.int .i64 0, .int .i64 0] 92):=⟨_,rfl⟩
     rw [← hwa]
     have hba:Fresh wk2 wl:=by rw [hwa]; exact fnew (frefl _) _
     obtain ⟨gb,hgb⟩:∃ g,g = wk2.heap.size:=⟨_,rfl⟩
     have ra:RowAt wl gb 92 [.int .i64 0, .int .i64 0]:=by rw [hwa,hgb]; exact RowAt.new _ _ _
     have hga:W5.heap.size ≤ gb:=by rw [hgb]; exact f2.size
     have f9:=fstep f2 hba
     rw [← hgb]
     clear hwa hgb hba
     refine hK.out _ _ ?_ (fun hHeld=>?_)
     ·exact kq_33 HSS f9
     clear hK K
     try simp only [PU]
     clear f1 f2
    rotate_left
    focus
     refine hd_cons (i:=11) rfl (by kernel_rfl) (fun K hK=>?_) hd_nil
     go_simp
     obtain ⟨wk2,hwa⟩:∃ W,W = wk1.alloc (.cells #[.int .i64 0, .int .i64 0] 92):=⟨_,rfl⟩
     rw [← hwa]
     have hba:Fresh wk1 wk2:=by rw [hwa]; exact fnew (frefl _) _
     obtain ⟨gb,hgb⟩:∃ g,g = wk1.heap.size:=⟨_,rfl⟩
     have ra0:RowAt wk2 gb 92 [.int .i64 0, .int .i64 0]:=by rw [hwa,hgb]; exact RowAt.new _ _ _
     have hga:W5.heap.size ≤ gb:=by rw [hgb]; exact f1.size
     have f2:=fstep f1 hba
     rw [← hgb]
     clear hwa hgb hba
     refine hK.out _ _ ?_ (fun hHeld=>?_)
     ·exact kq_33 HSS f2
     clear hK K
     try simp only [PU]
     refine hd_one (i:=7) rfl (by kernel_rfl) (by kernel_rfl) (fun K hK=>?_)
     go_simp
     go_at_call 119
     refine (HFT.out _).mono ?_
     rintro e wl ⟨rfl,hb⟩
     have f9:=fstep f2 hb
     have ra:=ra0.keep hb
     clear hb
     go_wp2_with fail
     refine hK.out _ _ ?_ (fun hHeld=>?_)
     ·exact kq_33 HSS f9
     clear hK K
     try simp only [PU]
     refine hd_tk (i:=8) (v:=?_) rfl ?_ ?_
     rotate_left
     ·(intro w hSw; (try dsimp only at hSw); go_simp; first | done | with_reducible rfl)
     try simp only [PU]
     refine hd_tk (i:=9) (v:=?_) rfl ?_ ?_
     rotate_left
     ·(intro w hSw; (try dsimp only at hSw); go_simp; first | done | with_reducible rfl)
     try simp only [PU]
     refine hd_tk (i:=10) (v:=?_) rfl ?_ ?_
     rotate_left
     ·(intro w hSw; (try dsimp only at hSw); go_simp; first | done | with_reducible rfl)
     try simp only [PU]
     clear f1 f2 ra0
   rotate_left 2
   focus
    refine hd_cons (i:=11) rfl (by kernel_rfl) (fun K hK=>?_) hd_nil
    go_simp
    obtain ⟨wk1,hwa⟩:∃ W,W = Wz.alloc (.cells #[.int .i64 0, .int .i64 0] 92):=⟨_,rfl⟩
    rw [← hwa]
    have hba:Fresh Wz wk1:=by rw [hwa]; exact fnew (frefl _) _
    obtain ⟨gb,hgb⟩:∃ g,g = Wz.heap.size:=⟨_,rfl⟩
    have ra0:RowAt wk1 gb 92 [.int .i64 0, .int .i64 0]:=by rw [hwa,hgb]; exact RowAt.new _ _ _
    have hga:W5.heap.size ≤ gb:=by rw [hgb]; exact f0.size
    have f1:=fstep f0 hba
    rw [← hgb]
    clear hwa hgb hba
    refine hK.out _ _ ?_ (fun hHeld=>?_)
    ·exact kq_33 HSS f1
    clear hK K
    try simp only [PU]
    refine hd_one (i:=3) rfl (by kernel_rfl) (by kernel_rfl) (fun K hK=>?_)
    go_simp
    go_at_call 120
    refine (HRMX.out _ f1).mono ?_
    rintro e wk2 ⟨rfl,hb⟩
    have f2:=fstep f1 hb
    have ra1:=ra0.keep hb
    clear hb
    go_wp2_with fail
    refine hK.out _ _ ?_ (fun hHeld=>?_)
    ·exact kq_33 HSS f2
    clear hK K
    try simp only [PU]
    refine hd_one (i:=7) rfl (by kernel_rfl) (by kernel_rfl) (fun K hK=>?_)
    go_simp
    go_at_call 119
    refine (HFT.out _).mono ?_
    rintro e wl ⟨rfl,hb⟩
    have f9:=fstep f2 hb
    have ra:=ra1.keep hb
    clear hb
    go_wp2_with fail
    refine hK.out _ _ ?_ (fun hHeld=>?_)
    ·exact kq_33 HSS f9
    clear hK K
    try simp only [PU]
    refine hd_tk (i:=8) (v:=?_) rfl ?_ ?_
    rotate_left
    ·(intro w hSw; (try dsimp only at hSw); go_simp; first | done | with_reducible rfl)
    try simp only [PU]
    refine hd_tk (i:=9) (v:=?_) rfl ?_ ?_
    rotate_left
    ·(intro w hSw; (try dsimp only at hSw); go_simp; first | done | with_reducible rfl)
    try simp only [PU]
    refine hd_tk (i:=10) (v:=?_) rfl ?_ ?_
    rotate_left
    ·(intro w hSw; (try dsimp only at hSw); go_simp; first | done | with_reducible rfl)
    try simp only [PU]
    clear f1 f2 ra0 ra1
   all_goals (
    have z0:=ra.cell (i:=0) rfl
    have z1:=ra.cell (i:=1) rfl
    have u0:=ra.frozen 0
    have u1:=ra.frozen 1
    have fs:=(fset (fset f9 hga (o:=0) (.int .i64 bf)) hga (o:=1) (.int .i64 bn))
    refine hd_one (i:=12) rfl (by kernel_rfl) (by kernel_rfl) (fun K hK=>?_)
    (go_simp)
    refine hK.out _ _ ?_ (fun hHeld=>?_)
    ·exact kq_33 HSS fs
    clear hK K
    try simp only [PU]
    refine hd_done (by kernel_rfl) ?_
    clear hHeld
    simp only [List.drop_succ_cons,List.drop_zero]
    obtain ⟨W7,hW7⟩:∃ W,W = (wl.setCell ⟨gb,0,none⟩ (.int .i64 bf)).setCell ⟨gb,1,none⟩ (.int .i64 bn):=⟨_,rfl⟩
    rw [← hW7] at fs ⊢
    have hr7:RowAt W7 gb 92 [.int .i64 bf, .int .i64 bn]:=by rw [hW7]; exact (ra.set 0 (.int .i64 bf)).set 1 (.int .i64 bn)
    have HF7:=Lib.hid (fstep HF6.out fs)
    have HO7:=Lib.hid (ownsRow_keep HO.out fs)
    have HCH7:=Lib.hid (HCH.out.keep fs)
    have hbx7:=HBX.out.keep fs
    clear z0 z1 u0 u1 ra hW7 f9 hga HSS HRMX HFT HO HCH HBX f0
    cases bb
    ·have HL2:Hid (ltsOf fit P.lights (M.take (j + 1)) = I):=by show _ = _; rw [HTK.out,ltsOf_snoc,← HIE.out,HLT.out]; simp
     clear fs hr7 hbx7
     go_wp2
     go_roundw
     case rel=>exact ⟨j + 1,hlt,by go_num,by rw [HL2.out]; exact HO7.out,HCH7.out,HF7.out⟩
     case measure=>simp [intOf]; omega
    ·have HL2:Hid (ltsOf fit P.lights (M.take (j + 1)) = I ++ [⟨0,x.r,bf,bn⟩]):=by show _ = _; rw [HTK.out,ltsOf_snoc,← HIE.out,HLT.out]; simp
     have b0:=hbx7.cell (i:=0) rfl
     have b1:=hbx7.cell (i:=1) rfl
     have t0:=hr7.cell (i:=0) rfl
     have t1:=hr7.cell (i:=1) rfl
     have hown7:=HO7.out
     clear fs hr7 hbx7
     go_wp2_with (at_builtin; refine wpList_app_g Tryz.underlying36 infoLt rfl (by decide) (by decide) W2 W7 _ I.length (I.flatMap llC) [.int .i64 0, .int .i64 x.r.start, .slice x.r.q x.r.fibs.length x.r.cap, .int .i64 bf, .int .i64 bn] _ rfl (one_lt ⟨0,x.r,bf,bn⟩) rfl _ _ rfl rfl hown7 rfl rfl hil HF7.out ?_; intro v' w9 hown9 hf9 hk9)
     have HO9:=Lib.hid hown9
     have HF9:=Lib.hid hf9
     have HK9:=Lib.hid hk9
     clear hown7 hown9 hf9 hk9 b0 b1 t0 t1
     go_wp2
     go_roundw
     case rel=>exact ⟨j + 1,hlt,by go_num,by rw [HL2.out,List.flatMap_append,List.length_append]; exact HO9.out,HCH7.out.typ HK9.out,HF9.out⟩
     case measure=>simp [intOf]; omega)
  ·have hltz:¬ (j:Int) < (l.length:Int):=by omega
   have hje:M.take j = M:=List.take_of_length_le (by rw [HML.out]; omega)
   rw [hje] at hown
   have HO:=Lib.hid hown
   have HCH:=Lib.hid hch
   have HF:=Lib.hid hf
   clear hown hch hf hje
   go_wp2
   go_ret2
   refine ⟨_,ltsOf fit P.lights M,by rw [HOK.out]; first | done | rfl,⟨owns_mono HO.out hsz,fun y hy=>?_,ltsOf_dist _ _ HCH.out.dist⟩,by rw [ltsOf_val,HMV.out]; rfl,fstep HF2.out HF.out⟩
   obtain ⟨x,hx,e⟩:=ltsOf_mem hy
   rw [e]
   exact (HCH.out.fib x hx).mono hsz
end Go.Proofs.YteckjlkhopkogaaGreat
