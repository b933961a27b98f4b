/- Texts of mine laid together (Co, Co2, Co3, Co4). -/
import Derived.Test.YteckjlkhopkogaaGreatY7
import Derived.Test.YteckjlkhopkogaaGreatV3
import Derived.Test.YteckjlkhopkogaaGreatKm
import Derived.BigRegion
import Derived.Deep.DeepCutAuto
/- Contracts: a choice's cost, the comparison by it. -/
namespace Go.Proofs.YteckjlkhopkogaaGreat
open Go.RowKit Go.PlainAid
abbrev costV (x:CV):Int:=x.k * (x.n:Int)
def CvOk (x:CV):Prop:=0 ≤ x.k∧x.k ≤ 24∧x.n ≤ 1048576
theorem cost_fit {x:CV} (h:CvOk x):0 ≤ costV x∧costV x ≤ 25165824:=by
 obtain ⟨h1,h2,h3⟩:=h
 have e1:(x.n:Int) ≤ 1048576:=by omega
 exact ⟨Int.mul_nonneg h1 (by omega),Int.le_trans (Int.mul_le_mul h2 e1 (by omega) (by omega)) (by decide)⟩
set_option maxHeartbeats 1000000 in
set_option maxRecDepth 20000 in
theorem cost_any (x:CV) (hx:CvOk x) (w:World) :
  Calls Tryz.prog 169 #[.agg #[.int .i64 x.s, .slice x.q x.n x.c, .int .i64 x.k]] w fun e w'=>e = .returned (.int .i64 (costV x))∧Fresh w w':=by
 have hc:=cost_fit hx
 have w1:IntKind.i64.wrap (x.k * (x.n:Int)) = costV x:=by
  show _ = x.k * (x.n:Int)
  have hc2:0 ≤ x.k * (x.n:Int)∧x.k * (x.n:Int) ≤ 25165824:=hc
  rw [IntKind.wrap_i64] <;> omega
 obtain ⟨s,q,n,c,k⟩:=x
 simp only at w1 hc hx ⊢
 clear hc hx
 obtain ⟨W2,hW2⟩:∃ W,W = w.alloc (.cells #[.int .i64 s, .slice q n c, .int .i64 k] 150):=⟨_,rfl⟩
 have r2:RowAt W2 w.heap.size 150 [.int .i64 s, .slice q n c, .int .i64 k]:=by rw [hW2]; exact RowAt.new w _ _
 have hf:Fresh w W2:=by rw [hW2]; exact fnew (frefl _) _
 have k1:=r2.cell (i:=1) rfl
 have k2:=r2.cell (i:=2) rfl
 have HF:=Lib.hid hf
 have HW2:=Lib.hid hW2
 clear r2 hf hW2
 go_enter Tryz.func169,Tryz.ntmps169
 go_wp2_with fail
 try rw [← HW2.out]
 go_wp2
 refine bodyPost_ret (v:=.int .i64 (costV ⟨s,q,n,c,k⟩)) (by simp [results,Tryz.results169,go_sem]) rfl ?_
 exact ⟨rfl,HF.out⟩
def cfV (D:Nat→CV) (i j:Nat):Int:=cmpI (costV (D i)) (costV (D j))
theorem cmpI_neg (a b:Int):cmpI a b < 0 ↔ a < b:=by
 unfold cmpI
 split
 ·constructor <;> intro _ <;> omega
 ·split
  ·constructor <;> intro _ <;> omega
  ·constructor <;> intro _ <;> omega
theorem ltO_cfV (D:Nat→CV) (i j:Nat):ltO (cfV D) i j = decide (costV (D i) < costV (D j)):=by
 unfold ltO cfV
 rw [decide_eq_decide]
 exact cmpI_neg _ _
theorem swo_cfV (D:Nat→CV):Swo (ltO (cfV D)):=by
 refine ⟨fun i j h=>?_,fun i j k h1 h2=>?_⟩
 ·rw [ltO_cfV] at h ⊢
  have:=of_decide_eq_true h
  exact decide_eq_false (by omega)
 ·rw [ltO_cfV] at h1 h2 ⊢
  have e1:=of_decide_eq_false h1
  have e2:=of_decide_eq_false h2
  exact decide_eq_false (by omega)
set_option maxHeartbeats 2000000 in
set_option maxRecDepth 20000 in
theorem byCostClo_any (D:Nat→CV) (hD:∀ i,CvOk (D i)):CmpD D (cfV D):=by
 intro i j W
 have h1:=hD i
 have h2:=hD j
 show Calls _ _ _ _ fun e w'=>e = .returned (.int .i64 (cmpI (costV (D i)) (costV (D j))))∧Fresh W w'
 generalize D i = x at h1 ⊢
 generalize D j = y at h2 ⊢
 have HCX:=Lib.hid (cost_any x h1)
 have HCY:=Lib.hid (cost_any y h2)
 have HCI:Hid (∀ (a b:Int) (w:World),Calls Tryz.prog 134 #[.int .i64 a, .int .i64 b] w fun e w'=>e = .returned (.int .i64 (cmpI a b))∧Fresh w w'):=fun a b w=>(compare_any a b w).mono fun e w' ⟨q1,q2⟩=>⟨q1,by rw [q2]; exact frefl _⟩
 obtain ⟨cx,hcx⟩:∃ z,z = costV x:=⟨_,rfl⟩
 obtain ⟨cy,hcy⟩:∃ z,z = costV y:=⟨_,rfl⟩
 rw [← hcx,← hcy]
 rw [← hcx] at HCX
 rw [← hcy] at HCY
 clear hcx hcy h1 h2 hD
 obtain ⟨xs,xq,xn,xc,xk⟩:=x
 obtain ⟨ys,yq,yn,yc,yk⟩:=y
 simp only at HCX HCY ⊢
 obtain ⟨W2,hW2,hsz2,hf2,r1,r2⟩:=two_rows W [.int .i64 xs, .slice xq xn xc, .int .i64 xk] [.int .i64 ys, .slice yq yn yc, .int .i64 yk] 150 150
 have x0:=fun xa:After W2=>akeep (r1.cell (i:=0) rfl) xa
 have x1:=fun xa:After W2=>akeep (r1.cell (i:=1) rfl) xa
 have x2:=fun xa:After W2=>akeep (r1.cell (i:=2) rfl) xa
 have y0:=fun xa:After W2=>akeep (r2.cell (i:=0) rfl) xa
 have y1:=fun xa:After W2=>akeep (r2.cell (i:=1) rfl) xa
 have y2:=fun xa:After W2=>akeep (r2.cell (i:=2) rfl) xa
 have HF2:=Lib.hid hf2
 have HW2:=Lib.hid hW2
 clear hW2 hf2 r1 r2
 go_enter Tryz.func168,Tryz.ntmps168
 go_wp2
 rw [← HW2.out]
 refine wp_region_after (by kernel_rfl) (by kernel_rfl) ?_
 repeat (go_big_quiet_step ((first | (go_at_call 169; (first | with_reducible exact after_call (HCX.out _) | with_reducible exact after_call (HCY.out _))) | (go_at_call 134; exact after_call (HCI.out _ _ _)))))
 refine wpQuiet_nil ?_
 rintro _ ⟨xa,rfl⟩
 have HXA:=Lib.hid xa.h
 clear x0 x1 x2 y0 y1 y2
 go_wp2
 refine bodyPost_ret (v:=.int .i64 (cmpI cx cy)) (by simp [results,Tryz.results168,go_sem]) rfl ?_
 exact ⟨rfl,fstep HF2.out HXA.out⟩
end Go.Proofs.YteckjlkhopkogaaGreat
/- Contracts: choices in ascending order of their cost. -/
namespace Go.Proofs.YteckjlkhopkogaaGreat
open Go.RowKit Go.PlainAid
/-- The stable order by a number. -/
def ordL {α:Type} (K:α→Int) (d:α) (l:List α):List α:=(List.range l.length).map fun i=>l.getD (ordS (fun i j=>decide (K (l.getD i d) < K (l.getD j d))) l.length i) d
theorem ordL_len {α:Type} (K:α→Int) (d:α) (l:List α):(ordL K d l).length = l.length:=by simp [ordL]
theorem ordS_lt (lt:Nat→Nat→Bool) {n i:Nat} (h:i < n):ordS lt n i < n:=(ordS_pi lt n).range.1 i h
theorem ordL_get {α:Type} (K:α→Int) (d:α) (l:List α) {i:Nat} (h:i < l.length):(ordL K d l)[i]? = l[ordS (fun i j=>decide (K (l.getD i d) < K (l.getD j d))) l.length i]?:=by
 have h2:=ordS_lt (fun i j=>decide (K (l.getD i d) < K (l.getD j d))) h
 unfold ordL
 rw [List.getElem?_map,List.getElem?_range h]
 simp only [Option.map_some]
 rw [List.getD_eq_getElem?_getD,List.getElem?_eq_getElem h2]
 rfl
theorem ordL_mem {α:Type} {K:α→Int} {d:α} {l:List α} {x:α} (h:x ∈ ordL K d l):x ∈ l:=by
 obtain ⟨i,hi,rfl⟩:=List.mem_map.1 h
 have hi2:i < l.length:=by simpa using hi
 have h2:=ordS_lt (fun i j=>decide (K (l.getD i d) < K (l.getD j d))) hi2
 rw [List.getD_eq_getElem?_getD,List.getElem?_eq_getElem h2]
 exact List.getElem_mem h2
theorem ordL_map {α β:Type} (K:α→Int) (d:α) (K':β→Int) (f:α→β) (h:∀ x,K' (f x) = K x) (l:List α):(ordL K d l).map f = ordL K' (f d) (l.map f):=by
 have e:∀ i,(l.map f).getD i (f d) = f (l.getD i d):=by
  intro i
  simp only [List.getD_eq_getElem?_getD,List.getElem?_map]
  cases l[i]? <;> rfl
 unfold ordL
 rw [List.map_map,List.length_map]
 apply List.map_congr_left
 intro i _
 show f _ = _
 simp only [e,h]
def dCH:CH:=⟨⟨0,none,0,[]⟩,0⟩
def toCV (x:CH):CV:=⟨x.r.start,x.r.q,x.r.fibs.length,x.r.cap,x.k⟩
def dOf (l:List CH) (i:Nat):CV:=toCV (l.getD i dCH)
def kCH (x:CH):Int:=x.k * (x.r.fibs.length:Int)
def kCV (x:ChV):Int:=x.2 * (x.1.2.length:Int)
def ordH (l:List CH):List CH:=ordL kCH dCH l
def ordV (l:List ChV):List ChV:=ordL kCV ((0,[]),0) l
theorem ordH_val (l:List CH):(ordH l).map CH.val = ordV (l.map CH.val):=ordL_map kCH dCH kCV CH.val (fun _=>rfl) l
theorem ordH_len (l:List CH):(ordH l).length = l.length:=ordL_len _ _ _
theorem ordV_len (l:List ChV):(ordV l).length = l.length:=ordL_len _ _ _
theorem lt_is (l:List CH):ltO (cfV (dOf l)) = fun i j=>decide (kCH (l.getD i dCH) < kCH (l.getD j dCH)):=by
 funext i j
 exact ltO_cfV _ _ _
theorem rowC_ord (l:List CH):rowC (dOf l) (ordS (ltO (cfV (dOf l))) l.length) l.length = (ordH l).flatMap chC:=by
 unfold rowC ordH ordL
 rw [List.flatMap_map,lt_is]
 rfl
theorem rowC_id (l:List CH):rowC (dOf l) id l.length = l.flatMap chC:=by
 have e:(List.range l.length).map (fun i=>l.getD i dCH) = l:=by
  apply List.ext_getElem?
  intro i
  rw [List.getElem?_map]
  rcases Nat.lt_or_ge i l.length with h | h
  ·rw [List.getElem?_range h,List.getElem?_eq_getElem h]
   simp only [Option.map_some]
   rw [List.getD_eq_getElem?_getD,List.getElem?_eq_getElem h]; rfl
  ·rw [List.getElem?_eq_none (by simpa using h),List.getElem?_eq_none h]; rfl
 have e2:=congrArg (List.flatMap chC) e
 rw [List.flatMap_map] at e2
 exact e2
theorem row_ownsC {w:World} {base size n g cap:Nat} {E:TypeId} {xs sp:List Value} (hb:base ≤ g) (hr:RowAt w g E (xs ++ sp)) (hn:n ≤ cap) (hc:cap ≤ maxLen) (hl:(xs ++ sp).length = cap * size) (hx:xs.length = n * size):w.ownsRow base E size (.slice (some ⟨g,0,none⟩) n cap) n xs :=
 ⟨hx,Or.inr ⟨g,cap,(xs ++ sp).toArray,rfl,hb,hr,hn,hc,by simpa using hl,by simp [← hx]⟩⟩
theorem owns_rowC {w:World} {base size n cap:Nat} {E:TypeId} {p:Option Addr} {xs:List Value} (h:w.ownsRow base E size (.slice p n cap) n xs) (hn:0 < n):∃ g sp,p = some ⟨g,0,none⟩∧base ≤ g∧RowAt w g E (xs ++ sp)∧n ≤ cap∧cap ≤ maxLen∧(xs ++ sp).length = cap * size:=by
 obtain ⟨h1,⟨_,h2⟩ | ⟨g,c2,cur,hv,hb,hh,h3,h4,h5,h6⟩⟩:=h
 ·omega
 ·cases hv
  have e:cur.toList = xs ++ cur.toList.drop (n * size):=by rw [← h6,List.take_append_drop]
  refine ⟨g,cur.toList.drop (n * size),rfl,hb,?_,h3,h4,?_⟩
  ·unfold RowAt; rw [hh,← e]
  ·rw [← e]; simpa using h5
theorem DistR.ord {l:List CH} (h:DistR (l.map CH.r)):DistR ((ordH l).map CH.r):=by
 obtain ⟨_,hinj,_⟩:=(ordS_pi (fun i j=>decide (kCH (l.getD i dCH) < kCH (l.getD j dCH))) l.length).range
 intro i j x y hij hx hy g o g' o' e1 e2
 rw [List.getElem?_map] at hx hy
 obtain ⟨x',hx',rfl⟩:=Option.map_eq_some_iff.1 hx
 obtain ⟨y',hy',rfl⟩:=Option.map_eq_some_iff.1 hy
 have hi:i < l.length:=by
  have:=(List.getElem?_eq_some_iff.1 hx').1
  rwa [ordH_len] at this
 have hj:j < l.length:=by
  have:=(List.getElem?_eq_some_iff.1 hy').1
  rwa [ordH_len] at this
 have gx:=(ordL_get kCH dCH l hi).symm.trans hx'
 have gy:=(ordL_get kCH dCH l hj).symm.trans hy'
 have hne:ordS (fun i j=>decide (kCH (l.getD i dCH) < kCH (l.getD j dCH))) l.length i ≠ ordS (fun i j=>decide (kCH (l.getD i dCH) < kCH (l.getD j dCH))) l.length j:=fun e=>by
  have:=hinj i j e; omega
 exact h _ _ x'.r y'.r hne (by rw [List.getElem?_map,gx]; rfl) (by rw [List.getElem?_map,gy]; rfl) g o g' o' e1 e2
set_option maxHeartbeats 2000000 in
set_option maxRecDepth 20000 in
theorem byCost_any (w0:World) (p:Option Addr) (c:Nat) (l:List CH) (w:World) (h:Chs w w0.heap.size (.slice p l.length c) l) (hf:Fresh w0 w) (hne:0 < l.length) (hl:l.length ≤ 1048576) (hk:∀ x ∈ l,0 ≤ x.k∧x.k ≤ 24∧x.r.fibs.length ≤ 1048576) :
  Calls Tryz.prog 118 #[.slice p l.length c] w fun e w'=>e = .returned (.slice p l.length c)∧Chs w' w0.heap.size (.slice p l.length c) (ordH l)∧Fresh w0 w':=by
 obtain ⟨g,sp,rfl,hg,hr,hnc,hcm,hlen⟩:=owns_rowC h.row hne
 have hD:∀ i,CvOk (dOf l i):=by
  intro i
  unfold dOf
  rcases Nat.lt_or_ge i l.length with hi | hi
  ·rw [List.getD_eq_getElem?_getD,List.getElem?_eq_getElem hi]
   exact hk _ (List.getElem_mem hi)
  ·rw [List.getD_eq_getElem?_getD,List.getElem?_eq_none hi]
   exact ⟨Int.le_refl _,by decide,by decide⟩
 have hs:=sortStable_any g c l.length (dOf l) (cfV (dOf l)) (swo_cfV _) (byCostClo_any _ hD) sp w (by rw [rowC_id]; exact hr) hl
 have HS:=Lib.hid hs
 have HH:=Lib.hid h
 have HF:=Lib.hid hf
 have HR:=Lib.hid hr
 have HL:=Lib.hid hlen
 clear hs h hf hk hD hr hlen
 go_enter Tryz.func118,Tryz.ntmps118
 go_wp2_with fail
 refine (HS.out).mono ?_
 rintro e W1 ⟨rfl,h1,h2⟩
 have HR1:=Lib.hid h1
 have HS1:=Lib.hid h2
 clear h1 h2 HS
 go_wp2
 refine bodyPost_ret (v:=.slice (some ⟨g,0,none⟩) l.length c) (by simp [results,Tryz.results118,go_sem]) rfl ?_
 have hr1:=HR1.out
 rw [rowC_ord] at hr1
 have e3:((ordH l).flatMap chC).length = l.length * 3:=by rw [flat_len chC 3 (fun _=>rfl),ordH_len]
 have e4:(l.flatMap chC).length = l.length * 3:=flat_len chC 3 (fun _=>rfl) l
 have hlen:=HL.out
 rw [List.length_append,e4] at hlen
 have hkp:∀ h t cs,RowAt w h t cs→t ≠ 150→RowAt W1 h t cs:=fun a t cs q1 q2=>HS1.out.1 a t cs q1 fun e=>by subst e; exact q2 (q1.inj HR.out).1
 refine ⟨rfl,⟨?_,fun x hx=>(HH.out.fib x (ordL_mem hx)).grown hkp (by decide),HH.out.dist.ord,fun x hx=>HH.out.cap x (ordL_mem hx)⟩,HS1.out.2 w0 HF.out hg⟩
 rw [ordH_len]
 exact row_ownsC hg hr1 hnc hcm (by rw [List.length_append,e3]; exact hlen) e3
end Go.Proofs.YteckjlkhopkogaaGreat
/- Contracts: the cheapest usable route, the program's side. -/
namespace Go.Proofs.YteckjlkhopkogaaGreat
open Go.RowKit Go.PlainAid
/-- The cheapest usable route of a demand, its slots, whether there is one. -/
def chF (n:Net) (fm:List (Int × Int)) (d:Fib):(Int × List Int) × Int × Bool :=
 match ordV (usF n fm d).1 with
 | []=>((0,[]),0,false)
 | c :: _=>(c.1,c.2,true)
theorem chF_no {n:Net} {fm:List (Int × Int)} {d:Fib} (h:(usF n fm d).1 = []):chF n fm d = ((0,[]),0,false):=by unfold chF; rw [h]; rfl
theorem chF_yes {n:Net} {fm:List (Int × Int)} {d:Fib} {l:List CH} {x:CH} (h:l.map CH.val = (usF n fm d).1) (hx:(ordH l)[0]? = some x):chF n fm d = (x.r.val,x.k,true):=by
 unfold chF
 rw [← h,← ordH_val]
 cases e:ordH l with
 | nil=>rw [e] at hx; cases hx
 | cons a t=>rw [e] at hx; cases hx; rfl
theorem chs_fit {n:Net} {fm:List (Int × Int)} {d:Fib} {l:List CH} (h:l.map CH.val = (usF n fm d).1) (hok:usOk n fm d = true):∀ x ∈ l,0 ≤ x.k∧x.k ≤ 24∧x.r.fibs.length ≤ 1048576:=by
 intro x hx
 rw [usF_yes hok] at h
 have hu:usB n fm d = true:=by unfold usOk at hok; simp only [Bool.and_eq_true] at hok; exact hok.1
 obtain ⟨h1,h2,_,h3,_,h4,_,_⟩:=usB_at hu
 have hm:x.val ∈ usL n fm d.len (allR n d.a d.b):=by
  have h9:l.map CH.val = usL n fm d.len (allR n d.a d.b):=h
  rw [← h9]; exact List.mem_map_of_mem (f:=CH.val) hx
 obtain ⟨m1,m2,m3⟩:=usL_mem h2 h3 hm
 obtain ⟨_,g2⟩:=good_mem m1
 obtain ⟨_,_,a3,a4,_⟩:=nodes_at h1 h4 g2
 have m2':1 ≤ x.k:=m2
 have a3':(nodesR n d.a x.r.fibs).length = x.r.fibs.length + 1:=a3
 have a4':(nodesR n d.a x.r.fibs).length ≤ 8:=a4
 exact ⟨by omega,m3,by omega⟩
def OutCh (n:Net) (fm:List (Int × Int)) (d:Fib) (w:World) (e:Ending) (w':World):Prop:=∃ q c,e = .returned (.tuple #[.agg #[.int .i64 (chF n fm d).1.1, .slice q (chF n fm d).1.2.length c, .int .i64 (chF n fm d).2.1], .bool (chF n fm d).2.2])∧Own w' w.heap.size 3 q ((chF n fm d).1.2.map iv)∧Fresh w w'
theorem fibs_none {n:Net} {fm:List (Int × Int)} {d:Fib} (h:usOk n fm d = false):(usF n fm d).1 = []:=by rw [usF_no h]
set_option maxHeartbeats 4000000 in
set_option maxRecDepth 20000 in
theorem cheapest_any (v:Value) (n:Net) (pf:Option Addr) (cf:Nat) (fm:List (Int × Int)) (d:Fib) (w:World) (h:NetIn w v n) (hfm:Prs w pf fm) (hfl:fm.length ≤ 1048576) :
  Calls Tryz.prog 179 #[v, .slice pf fm.length cf,fibV d] w (OutCh n fm d w):=by
 have HN:=Lib.hid h
 have HP:=Lib.hid hfm
 obtain ⟨qn,cn,pn,cp,rfl,_,_,n1,_,_,_,_⟩:=h
 obtain ⟨W3,hW3,hsz3,hf3,r1,r2,r3⟩:=three_rows w [.slice qn n.nodes.length cn, .slice pn n.fibers.length cp] [.int .i64 d.a, .int .i64 d.b, .int .i64 d.len, .int .i64 d.risk] [.int .i64 0, .slice none 0 0, .int .i64 0] 35 59 150
 have HF3:=Lib.hid hf3
 have HW3:=Lib.hid hW3
 have HC:=Lib.hid (usable_any (.agg #[.slice qn n.nodes.length cn, .slice pn n.fibers.length cp]) n pf cf fm d W3 (HN.out.keep hf3) (HP.out.keep hf3) hfl)
 have HR3:=Lib.hid r3
 have hsz:=hf3.size
 clear hfm hf3 r1 r2 r3 hW3
 go_enter Tryz.func179,Tryz.ntmps179
 go_wp2_with fail
 rw [← HW3.out]
 refine (HC.out).mono ?_
 rintro e w4 ⟨V,l,rfl,hc,hv,hf⟩
 have HF4:=Lib.hid (fstep HF3.out hf)
 have hsz4:=hf.size
 have HCH:=Lib.hid hc
 have HV:=Lib.hid hv
 have hll:=ch_len hv
 have hB:=HR3.out.keep hf
 obtain ⟨p,c,rfl,_,_,_⟩:=owns_cap hc.row
 have HFF:=Lib.hid hf
 clear hc hv hf HC
 have hend:∀ (W:World),Fresh w W→RowAt W (w.heap.size + 1 + 1) 150 [.int .i64 0, .slice none 0 0, .int .i64 0]→(usF n fm d).1 = []→Fresh w (((W.setCell ⟨w.heap.size + 1 + 1,0,none⟩ (.int .i64 0)).setCell ⟨w.heap.size + 1 + 1,1,none⟩ (.slice none 0 0)).setCell ⟨w.heap.size + 1 + 1,2,none⟩ (.int .i64 0)):=fun W hW _ _=>fset (fset (fset hW (by omega) _) (by omega) _) (by omega) _
 have HEND:=Lib.hid hend
 clear hend
 have y0:=hB.cell (i:=0) rfl
 have y1:=hB.cell (i:=1) rfl
 have y2:=hB.cell (i:=2) rfl
 have u0:=hB.frozen 0
 have u1:=hB.frozen 1
 have u2:=hB.frozen 2
 cases hok:usOk n fm d
 ·have HNO:=Lib.hid (fibs_none hok)
  have hB':=((hB.set 0 (.int .i64 0)).set 1 (.slice none 0 0)).set 2 (.int .i64 0)
  have k0:=hB'.cell (i:=0) rfl
  have k1:=hB'.cell (i:=1) rfl
  have k2:=hB'.cell (i:=2) rfl
  have HB:=Lib.hid hB
  clear hok hB hB'
  go_wp2
  refine bodyPost_ret (v:=.tuple #[.agg #[.int .i64 0, .slice none 0 0, .int .i64 0], .bool false]) (by simp [results,Tryz.results179,go_sem,k0,k1,k2]) rfl ?_
  refine ⟨none,0,by rw [chF_no HNO.out]; rfl,Or.inl ⟨rfl,by rw [chF_no HNO.out]; rfl⟩,HEND.out _ HF4.out HB.out HNO.out⟩
 ·by_cases hz:l.length = 0
  ·have hl0:l = []:=List.eq_nil_of_length_eq_zero hz
   have HNO:Hid ((usF n fm d).1 = []):=by show _ = _; rw [← HV.out,hl0]; rfl
   have hB':=((hB.set 0 (.int .i64 0)).set 1 (.slice none 0 0)).set 2 (.int .i64 0)
   have k0:=hB'.cell (i:=0) rfl
   have k1:=hB'.cell (i:=1) rfl
   have k2:=hB'.cell (i:=2) rfl
   have HB:=Lib.hid hB
   clear hok hB hB' hl0
   go_wp2
   refine bodyPost_ret (v:=.tuple #[.agg #[.int .i64 0, .slice none 0 0, .int .i64 0], .bool false]) (by simp [results,Tryz.results179,go_sem,k0,k1,k2]) rfl ?_
   refine ⟨none,0,by rw [chF_no HNO.out]; rfl,Or.inl ⟨rfl,by rw [chF_no HNO.out]; rfl⟩,HEND.out _ HF4.out HB.out HNO.out⟩
  ·have HBC:=Lib.hid (byCost_any W3 p c l w4 HCH.out HFF.out (by omega) (by omega) (chs_fit HV.out hok))
   clear hok hB y0 y1 y2 u0 u1 u2
   go_wp2_with fail
   refine (HBC.out).mono ?_
   rintro e W5 ⟨rfl,hc5,hf5⟩
   have hl5:0 < (ordH l).length:=by rw [ordH_len]; omega
   have hc6:=hc5
   rw [← ordH_len l] at hc6
   obtain ⟨g,x,rfl,hx,hm,c0,c1,c2⟩:=chs_at hc6 hl5
   rw [show 0 * 3 = 0 from rfl] at c0 c1 c2
   simp only [Nat.zero_add] at c1 c2
   have HX:Hid (chF n fm d = (x.r.val,x.k,true)):=chF_yes HV.out hx
   have hB5:=HR3.out.keep hf5
   have y0:=hB5.cell (i:=0) rfl
   have y1:=hB5.cell (i:=1) rfl
   have y2:=hB5.cell (i:=2) rfl
   have u0:=hB5.frozen 0
   have u1:=hB5.frozen 1
   have u2:=hB5.frozen 2
   have hB':=((hB5.set 0 (.int .i64 x.r.start)).set 1 (.slice x.r.q x.r.fibs.length x.r.cap)).set 2 (.int .i64 x.k)
   have k0:=hB'.cell (i:=0) rfl
   have k1:=hB'.cell (i:=1) rfl
   have k2:=hB'.cell (i:=2) rfl
   have HO:Hid (Own (((W5.setCell ⟨w.heap.size + 1 + 1,0,none⟩ (.int .i64 x.r.start)).setCell ⟨w.heap.size + 1 + 1,1,none⟩ (.slice x.r.q x.r.fibs.length x.r.cap)).setCell ⟨w.heap.size + 1 + 1,2,none⟩ (.int .i64 x.k)) w.heap.size 3 x.r.q (x.r.fibs.map iv)):=by
    show Own _ _ _ _ _
    have ho:=(hc5.fib x hm).mono hsz
    exact ((ho.setO hB5 (by decide) _ _).setO (hB5.set 0 _) (by decide) _ _).setO ((hB5.set 0 _).set 1 _) (by decide) _ _
   have HFE:Hid (Fresh w (((W5.setCell ⟨w.heap.size + 1 + 1,0,none⟩ (.int .i64 x.r.start)).setCell ⟨w.heap.size + 1 + 1,1,none⟩ (.slice x.r.q x.r.fibs.length x.r.cap)).setCell ⟨w.heap.size + 1 + 1,2,none⟩ (.int .i64 x.k))):=fset (fset (fset (fstep HF3.out hf5) (by omega) _) (by omega) _) (by omega) _
   have hz2:0 < l.length:=by omega
   clear hc5 hc6 hf5 hx hm hB5 hB' hl5 HBC
   go_wp2
   refine bodyPost_ret (v:=.tuple #[.agg #[.int .i64 x.r.start, .slice x.r.q x.r.fibs.length x.r.cap, .int .i64 x.k], .bool true]) (by simp [results,Tryz.results179,go_sem,k0,k1,k2]) rfl ?_
   exact ⟨x.r.q,x.r.cap,by rw [HX.out],by rw [HX.out]; exact HO.out,HFE.out⟩
end Go.Proofs.YteckjlkhopkogaaGreat
/- Contracts: the cheapest route, the program's side. -/
namespace Go.Proofs.YteckjlkhopkogaaGreat
open Go.RowKit Go.PlainAid
def OutCr (n:Net) (fm:List (Int × Int)) (d:Fib) (w:World) (e:Ending) (w':World):Prop:=∃ v',e = .returned (.tuple #[v', .int .i64 (chF n fm d).2.1, .bool (chF n fm d).2.2])∧RtOwn w' w.heap.size v' (chF n fm d).1∧Fresh w w'
end Go.Proofs.YteckjlkhopkogaaGreat
