/- Texts of mine laid together (Pc, Pc2, Pc3, Pc4, Hd, Pc5, Pc6). -/
import Derived.Test.YteckjlkhopkogaaGreatM2
import Derived.Deep.DeepCutAuto
import Derived.Deep.RegionLaw
import Derived.Deep.RegionHeld3
import Derived.Test.YteckjlkhopkogaaGreatU1
namespace Go.Proofs.YteckjlkhopkogaaGreat
open Go.RowKit Go.PlainAid
theorem ownsRow_zero {w:World} {base:Nat} {E:TypeId} {size g:Nat} (hr:RowAt w g E []) (hg:base≤g):w.ownsRow base E size (.slice (some ⟨g,0,none⟩) 0 0) 0 [] :=
 ⟨by simp,Or.inr ⟨g,0,#[],rfl,hg,hr,Nat.le_refl _,by simp[maxLen],by simp,by simp⟩⟩
theorem owns_cap {w:World} {base:Nat} {t:TypeId} {v:Value} {n:Nat} {xs:List Value} {size:Nat} (h:w.ownsRow base t size v n xs):∃ p cap,v=.slice p n cap∧Own w base t p xs∧n≤cap∧cap≤9223372036854775807:=by
 obtain⟨p,cap,hv,ho⟩:=own_of_row h
 refine⟨p,cap,hv,ho,?_⟩
 rcases h.2 with⟨e,e2⟩|⟨g,c2,cur,e,_,_,h1,h2,_⟩
 ·rw[hv] at e;cases e;exact⟨by omega,by omega⟩
 ·rw[hv] at e;cases e;exact⟨h1,h2⟩
theorem step_app0 {T E:TypeId} {z:Value} {size bytes:Nat} (hu:Tryz.prog.underlying T=some (.slice E)) (hinfo:(Tryz.prog.info? E).map (fun i=>(i.zero,i.size,i.bytes))=some (some z,size,bytes))
  (hzs:z.cells.size=size) (hsz:0<size) (hby:bytes≤128) {ops:Array Oper} {o:Oper} {a:Act} {w:World} {K:Act→World→Prop} {Q:Exit→Act→World→Prop} {F:Prop} (w0:World) (g:Nat) (p:Option Addr) (m c:Nat) (news:List Value)
  (hgd:o.guard=none) (s t:Operand) (ho:o.op=.call { callee:=.builtin .append,args:=#[s,t],argTypes:=#[T,T] }) (hs:a.eval s=.slice (some ⟨g,0,none⟩) 0 0) (hr:RowAt w g E []) (hg:w0.heap.size≤g)
  (hx:a.eval t=.slice p m c) (hc:Cells w p news) (hl:news.length=m * size) (hone:∀ u∈news,u.oneCell'=true) (hm:m≤1048576) (hf:Fresh w0 w)
  (h:∀ q' c' w',Own w' w0.heap.size E q' news→m≤c'→c'≤9223372036854775807→Fresh w0 w'→(∀ g t cs,RowAt w g t cs→t≠E→RowAt w' g t cs)→K (a.put o.dst (.slice q' m c')) w') :
  if Region.wanted o (yielded ops a.tmps)=true then Oper.wp Tryz.prog o a w K Q else F:=by
 have hw:Region.wanted o (yielded ops a.tmps)=true:=by simp[Region.wanted,hgd]
 rw[if_pos hw]
 obtain⟨i0,hi,hz0,hz1,hz2⟩:=info_parts hinfo
 have hown:=ownsRow_zero (size:=size) hr hg
 rcases Nat.eq_zero_or_pos m with rfl|hm0
 ·have hnil:news=[]:=List.eq_nil_of_length_eq_zero (by simpa using hl)
  subst hnil
  have hrun:=run_append_zero (P:=Tryz.prog) (w:=w) w0.heap.size T o.type E i0 size hu hi _ 0 [] hown p c
  unfold Oper.wp
  simp[execOp,ho,resolve,invoke,builtin,hs,hx,hrun,Result.andThen]
  exact h _ _ w (Or.inr ⟨g,[],rfl,hg,hr⟩) (Nat.le_refl _) (by omega) hf fun _ _ _ h _=>h
 ·rcases hc with rfl|⟨b,off,rfl,hc⟩
  ·exfalso
   have:m * size=0:=by simpa using hl.symm
   rcases Nat.mul_eq_zero.1 this with h' | h' <;> omega
  ·refine wp_append_own w s t T ho w0.heap.size E i0 z size bytes hu hi hz0 hz1 hz2 hzs hsz _ 0 [] hs hown ⟨b,off,none⟩ m c news hx hl
    (fun j u hj=>by
     have h0:=hc j u hj
     unfold Addr.add
     split
     ·next e=>subst e;exact h0
     ·exact h0) hone (by unfold maxLen;omega) (Nat.le_trans (Nat.mul_le_mul (by omega:0+m≤2097152) hby) (by omega)) hf.size ?_
   intro v' w' hown' hgrow _
   rw[Nat.zero_add,List.nil_append] at hown'
   obtain⟨q',c',rfl,ho',h1,h2⟩:=owns_cap hown'
   exact h q' c' w' ho' h1 h2 (fgrown hf hgrow (own_block hown)) fun g t cs hr' ht=>row_grown0 hown hgrow hr' ht
theorem rr0 (w:World) (a b c:Obj) {t:TypeId} {xs:List Value} (h:a=.cells xs.toArray t):RowAt (((w.alloc a).alloc b).alloc c).drew w.heap.size t xs:=by
 subst h;exact(((RowAt.new w t xs).alloc _).alloc _).keep (fdrew (frefl _))
theorem rr1 (w:World) (a b c:Obj) {t:TypeId} {xs:List Value} (h:b=.cells xs.toArray t):RowAt (((w.alloc a).alloc b).alloc c).drew (w.heap.size+1) t xs:=by
 subst h
 have:=RowAt.new (w.alloc a) t xs
 rw[show(w.alloc a).heap.size=w.heap.size+1 by simp] at this
 exact(this.alloc _).keep (fdrew (frefl _))
theorem rr2 (w:World) (a b c:Obj) {t:TypeId} {xs:List Value} (h:c=.cells xs.toArray t):RowAt (((w.alloc a).alloc b).alloc c).drew (w.heap.size+1+1) t xs:=by
 subst h
 have:=RowAt.new ((w.alloc a).alloc b) t xs
 rw[show((w.alloc a).alloc b).heap.size=w.heap.size+1+1 by simp] at this
 exact this.keep (fdrew (frefl _))
theorem Own.setO {w:World} {base g:Nat} {t T:TypeId} {cs:List Value} {q:Option Addr} {xs:List Value} (h:Own w base t q xs) (hr:RowAt w g T cs) (hT:t≠T) (i:Nat) (v:Value):Own (w.setCell ⟨g,i,none⟩ v) base t q xs:=by
 rcases h with h|⟨b,sp,h1,h2,h3⟩
 ·exact Or.inl h
 ·exact Or.inr ⟨b,sp,h1,h2,h3.setOther (fun e=>by subst e;exact hT (h3.inj hr).1) _⟩
set_option maxHeartbeats 2000000 in
set_option maxRecDepth 20000 in
theorem copyRoute_any (s:Int) (q:Option Addr) (cap:Nat) (l:List Int) (w:World) (hI:Ints w q l) (hn:l.length≤1048576) :
  Calls Tryz.prog 96 #[.agg #[.int .i64 s,.slice q l.length cap]] w fun e w'=>∃ q' c',e=.returned (.agg #[.int .i64 s,.slice q' l.length c'])∧Own w' w.heap.size 3 q' (l.map iv)∧Fresh w w':=by
 have HI:Hid (∀ a b c:Obj,Cells (((w.alloc a).alloc b).alloc c).drew q (l.map iv)):=fun a b c=>hI.keep (fdrew (fnew (fnew (fnew (frefl _) _) _) _))
 clear hI
 go_enter Tryz.func96,Tryz.ntmps96
 go_upto_region 1 with fail
 go_cut [] (fun wx=>∃ q' c',RowAt wx (w.heap.size+1) 90 [iv s,.slice q' l.length c']∧Own wx w.heap.size 3 q' (l.map iv)∧Fresh w wx)
 case first =>
  go_region_law (refine step_app0 Tryz.underlying29 infoInt rfl (by decide) (by decide) w (w.heap.size+1+1) q l.length cap (l.map iv) rfl _ _ rfl rfl (rr2 _ _ _ _ rfl) (by omega) rfl (HI.out _ _ _) (by simp) (one_ints l) hn (fdrew (fnew (fnew (fnew (frefl _) _) _) _)) ?_;intro q' c' w' ho hc1 hc2 hf hk;have hb2:=hk _ _ _ (rr1 _ _ _ _ rfl) (by decide);have hb1:=hk _ _ _ (rr0 _ _ _ _ rfl) (by decide);have e0:=hb1.cell (i:=0) rfl;have e1:=hb1.cell (i:=1) rfl;have f0:=hb2.cell (i:=0) rfl;have f1:=hb2.cell (i:=1) rfl;have z0:=hb2.frozen 0;have z1:=hb2.frozen 1;clear hk)
  all_goals (go_wp2_with fail)
  all_goals go_meet
  all_goals exact⟨_,_,(hb2.set 0 _).set 1 _,(ho.setO hb2 (by decide) _ _).setO (hb2.set 0 _) (by decide) _ _,fset (fset hf (by omega) _) (by omega) _⟩
 case rest =>
  obtain⟨q',c',hr,ho,hf⟩:=hcut
  have k0:=hr.cell (i:=0) rfl
  have k1:=hr.cell (i:=1) rfl
  go_wp2
  refine bodyPost_ret (v:=.agg #[.int .i64 s,.slice q' l.length c']) (by simp[results,Tryz.results96,go_sem,k0,k1]) rfl ?_
  exact⟨q',c',rfl,ho,hf⟩
theorem rf1 (w:World) (a b c d:Obj) {t:TypeId} {xs:List Value} (h:b=.cells xs.toArray t):RowAt ((((w.alloc a).alloc b).alloc c).alloc d).drew (w.heap.size+1) t xs:=by
 subst h
 have:=RowAt.new (w.alloc a) t xs
 rw[show(w.alloc a).heap.size=w.heap.size+1 by simp] at this
 exact((this.alloc _).alloc _).keep (fdrew (frefl _))
theorem rf0 (w:World) (a b c d:Obj) {t:TypeId} {xs:List Value} (h:a=.cells xs.toArray t):RowAt ((((w.alloc a).alloc b).alloc c).alloc d).drew w.heap.size t xs:=by
 subst h;exact((((RowAt.new w t xs).alloc _).alloc _).alloc _).keep (fdrew (frefl _))
theorem rf2 (w:World) (a b c d:Obj) {t:TypeId} {xs:List Value} (h:c=.cells xs.toArray t):RowAt ((((w.alloc a).alloc b).alloc c).alloc d).drew (w.heap.size+1+1) t xs:=by
 subst h
 have:=RowAt.new ((w.alloc a).alloc b) t xs
 rw[show((w.alloc a).alloc b).heap.size=w.heap.size+1+1 by simp] at this
 exact(this.alloc _).keep (fdrew (frefl _))
theorem rf3 (w:World) (a b c d:Obj) {t:TypeId} {xs:List Value} (h:d=.cells xs.toArray t):RowAt ((((w.alloc a).alloc b).alloc c).alloc d).drew (w.heap.size+1+1+1) t xs:=by
 subst h
 have:=RowAt.new (((w.alloc a).alloc b).alloc c) t xs
 rw[show(((w.alloc a).alloc b).alloc c).heap.size=w.heap.size+1+1+1 by simp] at this
 exact this.keep (fdrew (frefl _))
theorem one_strs (l:List ByteArray):∀ u∈l.map Value.string,u.oneCell'=true:=by
 intro u hu
 obtain⟨x,_,rfl⟩:=List.mem_map.1 hu
 rfl
theorem one_fibs (l:List Fib):∀ u∈l.flatMap fibC,u.oneCell'=true:=by
 intro u hu
 obtain⟨x,_,hx⟩:=List.mem_flatMap.1 hu
 simp[fibC] at hx
 rcases hx with rfl|rfl|rfl|rfl <;> rfl
theorem kp2 {w w1 w2:World} {b0 o0 b1 o1:Nat} {v0 v1:Value} (h:Fresh w w1∧w1.cell? ⟨b0,o0,none⟩=some v0∧w1.cell? ⟨b1,o1,none⟩=some v1) (hb:Fresh w1 w2):Fresh w w2∧w2.cell? ⟨b0,o0,none⟩=some v0∧w2.cell? ⟨b1,o1,none⟩=some v1 :=
 ⟨fstep h.1 hb,fkeep hb h.2.1,fkeep hb h.2.2⟩
theorem step_app0D {T E:TypeId} {z:Value} {size bytes:Nat} {ops:Array Oper} {o:Oper} {a:Act} {w:World} {K:Act→World→Prop} {Q:Exit→Act→World→Prop} {F:Prop} (dd:Option Nat) (_hd:o.dst=dd) (hu:Tryz.prog.underlying T=some (.slice E)) (hinfo:(Tryz.prog.info? E).map (fun i=>(i.zero,i.size,i.bytes))=some (some z,size,bytes))
  (hzs:z.cells.size=size) (hsz:0<size) (hby:bytes≤128) (w0:World) (g:Nat) (p:Option Addr) (m c:Nat) (news:List Value)
  (hgd:o.guard=none) (s t:Operand) (ho:o.op=.call { callee:=.builtin .append,args:=#[s,t],argTypes:=#[T,T] }) (hs:a.eval s=.slice (some ⟨g,0,none⟩) 0 0) (hr:RowAt w g E []) (hg:w0.heap.size≤g)
  (hx:a.eval t=.slice p m c) (hc:Cells w p news) (hl:news.length=m * size) (hone:∀ u∈news,u.oneCell'=true) (hm:m≤1048576) (hf:Fresh w0 w)
  (h:∀ q' c' w',Own w' w0.heap.size E q' news→m≤c'→c'≤9223372036854775807→Fresh w0 w'→(∀ g t cs,RowAt w g t cs→t≠E→RowAt w' g t cs)→K (a.put o.dst (.slice q' m c')) w') :
  if Region.wanted o (yielded ops a.tmps)=true then Oper.wp Tryz.prog o a w K Q else F:=step_app0 hu hinfo hzs hsz hby w0 g p m c news hgd s t ho hs hr hg hx hc hl hone hm hf h
def OutNetC (w:World) (n:Net) (e:Ending) (w':World):Prop:=∃ q c p d,e=.returned (.agg #[.slice q n.nodes.length c,.slice p n.fibers.length d])∧Own w' w.heap.size 9 q (n.nodes.map Value.string)∧Own w' w.heap.size 163 p (n.fibers.flatMap fibC)∧n.nodes.length≤c∧c≤9223372036854775807∧Fresh w w'
set_option maxHeartbeats 8000000 in
set_option maxRecDepth 20000 in
theorem copyNetwork_any (v:Value) (n:Net) (w:World) (h:NetIn w v n):Calls Tryz.prog 95 #[v] w (OutNetC w n):=by
 obtain⟨q,c,p,d,rfl,hq,hp,hnn,hnf,_⟩:=h
 have HS:Hid (∀ W,Fresh w W→Cells W q (n.nodes.map Value.string)):=fun W hW=>Cells.keep hq hW
 have HP:Hid (∀ W,Fresh w W→Cells W p (n.fibers.flatMap fibC)):=fun W hW=>Cells.keep hp hW
 obtain⟨nn,hn1⟩:∃ k,k=n.nodes.length:=⟨_,rfl⟩
 obtain⟨nf,hn2⟩:∃ k,k=n.fibers.length:=⟨_,rfl⟩
 have hls:(n.nodes.map Value.string).length=nn * 1:=by simp[hn1]
 have hlf:(n.fibers.flatMap fibC).length=nf * 4:=by rw[flat_len fibC 4 (fun _=>rfl),hn2]
 unfold OutNetC
 rw[← hn1,← hn2]
 rw[← hn1] at hnn
 rw[← hn2] at hnf
 have HLS:=Lib.hid hls
 have HLF:=Lib.hid hlf
 clear hq hp hn1 hn2 hls hlf
 go_enter Tryz.func95,Tryz.ntmps95
 go_upto_region 1 with fail
 go_cut [] (fun wx=>∃ q' c' p' d',RowAt wx (w.heap.size+1) 35 [.slice q' nn c',.slice p' nf d']∧Own wx w.heap.size 9 q' (n.nodes.map Value.string)∧Own wx w.heap.size 163 p' (n.fibers.flatMap fibC)∧nn≤c'∧c'≤9223372036854775807∧Fresh w wx)
 case first =>
  have HSS0:Fresh w ((w.alloc (.cells #[.slice q nn c,.slice p nf d] 35)).alloc (.cells #[.slice none 0 0,.slice none 0 0] 35))∧((w.alloc (.cells #[.slice q nn c,.slice p nf d] 35)).alloc (.cells #[.slice none 0 0,.slice none 0 0] 35)).cell? ⟨w.heap.size,0,none⟩=some (.slice q nn c)∧((w.alloc (.cells #[.slice q nn c,.slice p nf d] 35)).alloc (.cells #[.slice none 0 0,.slice none 0 0] 35)).cell? ⟨w.heap.size,1,none⟩=some (.slice p nf d) :=
   ⟨fnew (fnew (frefl _) _) _,((RowAt.new w 35 [.slice q nn c,.slice p nf d]).alloc _).cell (i:=0) rfl,((RowAt.new w 35 [.slice q nn c,.slice p nf d]).alloc _).cell (i:=1) rfl⟩
  go_region_held3 (fun w'=>Fresh w w'∧w'.cell? ⟨w.heap.size,0,none⟩=some (.slice q nn c)∧w'.cell? ⟨w.heap.size,1,none⟩=some (.slice p nf d))
   (first|with_reducible assumption|exact⟨fset (fset hf2 (by omega) _) (by omega) _,((hb1b.setOther (by omega) _).setOther (by omega) _).cell (i:=0) rfl,((hb1b.setOther (by omega) _).setOther (by omega) _).cell (i:=1) rfl⟩|with_reducible exact kp2 (by assumption) (fdrew (frefl _))|with_reducible exact kp2 (by assumption) (frefl _)|with_reducible exact kp2 (by assumption) (fnew (frefl _) _)|with_reducible exact kp2 (by assumption) (fdrew (fnew (frefl _) _))|with_reducible exact kp2 (by assumption) (fdrew (fnew (fnew (frefl _) _) _))|with_reducible exact kp2 (by assumption) (fnew (fnew (frefl _) _) _))
   (first|(have _h:=hk;refine step_app0D (some 6) rfl Tryz.underlying22 infoStr rfl (by decide) (by decide) w _ q nn _ (n.nodes.map Value.string) rfl _ _ rfl rfl (by first|with_reducible exact RowAt.new _ _ []|exact hk _ _ _ (by first|with_reducible exact rf2 _ _ _ _ _ rfl|with_reducible exact rf3 _ _ _ _ _ rfl) (by decide)) (by omega) rfl (HS.out _ (by first|with_reducible exact hf|with_reducible exact fnew hf _)) HLS.out (one_strs _) (by omega) (by first|with_reducible exact hf|with_reducible exact fnew hf _) ?_;intro qs cs w2 hos hcs hds hf2 hk2;have hb2b:RowAt w2 (w.heap.size+1) 35 [.slice none 0 0,.slice none 0 0]:=hk2 _ _ _ (by first|with_reducible exact hb2|with_reducible exact hb2.alloc _) (by decide);have hofb:Own w2 w.heap.size 163 qf (n.fibers.flatMap fibC):=Own.grown (by first|exact hof|exact hof.keep (fnew (frefl _) _)) hk2 (by decide);have hb1b:RowAt w2 w.heap.size 35 [.slice q nn c,.slice p nf d]:=hk2 _ _ _ (by first|with_reducible exact hb1|with_reducible exact hb1.alloc _) (by decide);have hSS2:Fresh w w2∧w2.cell? ⟨w.heap.size,0,none⟩=some (.slice q nn c)∧w2.cell? ⟨w.heap.size,1,none⟩=some (.slice p nf d):=⟨hf2,(hk2 _ _ _ (by first|with_reducible exact hb1|with_reducible exact hb1.alloc _) (by decide)).cell (i:=0) rfl,(hk2 _ _ _ (by first|with_reducible exact hb1|with_reducible exact hb1.alloc _) (by decide)).cell (i:=1) rfl⟩;have f0:=hb2b.cell (i:=0) rfl;have f1:=hb2b.cell (i:=1) rfl;have z0:=hb2b.frozen 0;have z1:=hb2b.frozen 1)|(have _h:=hk;refine step_app0D (some 10) rfl Tryz.underlying33 infoFib rfl (by decide) (by decide) w _ p nf _ (n.fibers.flatMap fibC) rfl _ _ rfl rfl (by first|with_reducible exact RowAt.new _ _ []|exact hk _ _ _ (by first|with_reducible exact rf2 _ _ _ _ _ rfl|with_reducible exact rf3 _ _ _ _ _ rfl) (by decide)) (by omega) rfl (HP.out _ (by first|with_reducible exact hf|with_reducible exact fnew hf _)) HLF.out (one_fibs _) (by omega) (by first|with_reducible exact hf|with_reducible exact fnew hf _) ?_;intro qf cf w2 hof hcf hdf hf2 hk2;have hb2b:RowAt w2 (w.heap.size+1) 35 [.slice none 0 0,.slice none 0 0]:=hk2 _ _ _ (by first|with_reducible exact hb2|with_reducible exact hb2.alloc _) (by decide);have hosb:Own w2 w.heap.size 9 qs (n.nodes.map Value.string):=Own.grown (by first|exact hos|exact hos.keep (fnew (frefl _) _)) hk2 (by decide);have hb1b:RowAt w2 w.heap.size 35 [.slice q nn c,.slice p nf d]:=hk2 _ _ _ (by first|with_reducible exact hb1|with_reducible exact hb1.alloc _) (by decide);have hSS2:Fresh w w2∧w2.cell? ⟨w.heap.size,0,none⟩=some (.slice q nn c)∧w2.cell? ⟨w.heap.size,1,none⟩=some (.slice p nf d):=⟨hf2,(hk2 _ _ _ (by first|with_reducible exact hb1|with_reducible exact hb1.alloc _) (by decide)).cell (i:=0) rfl,(hk2 _ _ _ (by first|with_reducible exact hb1|with_reducible exact hb1.alloc _) (by decide)).cell (i:=1) rfl⟩;have f0:=hb2b.cell (i:=0) rfl;have f1:=hb2b.cell (i:=1) rfl;have z0:=hb2b.frozen 0;have z1:=hb2b.frozen 1)|(refine step_app0D (some 6) rfl Tryz.underlying22 infoStr rfl (by decide) (by decide) w _ q nn _ (n.nodes.map Value.string) rfl _ _ rfl rfl (by first|with_reducible exact rr2 _ _ _ _ rfl|with_reducible exact rf2 _ _ _ _ _ rfl|with_reducible exact rf3 _ _ _ _ _ rfl) (by omega) rfl (HS.out _ (by first|with_reducible exact fdrew (fnew (fnew (fnew (fnew (frefl _) _) _) _) _)|with_reducible exact fdrew (fnew (fnew (fnew (frefl _) _) _) _))) HLS.out (one_strs _) (by omega) (by first|with_reducible exact fdrew (fnew (fnew (fnew (fnew (frefl _) _) _) _) _)|with_reducible exact fdrew (fnew (fnew (fnew (frefl _) _) _) _)) ?_;intro qs cs w1 hos hcs hds hf hk;have hsz:=hf.size;have hb2:RowAt w1 (w.heap.size+1) 35 [.slice none 0 0,.slice none 0 0]:=hk _ _ _ (by first|with_reducible exact rr1 _ _ _ _ rfl|with_reducible exact rf1 _ _ _ _ _ rfl) (by decide);have hb1:RowAt w1 w.heap.size 35 [.slice q nn c,.slice p nf d]:=hk _ _ _ (by first|with_reducible exact rr0 _ _ _ _ rfl|with_reducible exact rf0 _ _ _ _ _ rfl) (by decide);have e0:=hb1.cell (i:=0) rfl;have e1:=hb1.cell (i:=1) rfl;have hSS:Fresh w w1∧w1.cell? ⟨w.heap.size,0,none⟩=some (.slice q nn c)∧w1.cell? ⟨w.heap.size,1,none⟩=some (.slice p nf d):=⟨hf,e0,e1⟩)|(refine step_app0D (some 10) rfl Tryz.underlying33 infoFib rfl (by decide) (by decide) w _ p nf _ (n.fibers.flatMap fibC) rfl _ _ rfl rfl (by first|with_reducible exact rr2 _ _ _ _ rfl|with_reducible exact rf2 _ _ _ _ _ rfl|with_reducible exact rf3 _ _ _ _ _ rfl) (by omega) rfl (HP.out _ (by first|with_reducible exact fdrew (fnew (fnew (fnew (fnew (frefl _) _) _) _) _)|with_reducible exact fdrew (fnew (fnew (fnew (frefl _) _) _) _))) HLF.out (one_fibs _) (by omega) (by first|with_reducible exact fdrew (fnew (fnew (fnew (fnew (frefl _) _) _) _) _)|with_reducible exact fdrew (fnew (fnew (fnew (frefl _) _) _) _)) ?_;intro qf cf w1 hof hcf hdf hf hk;have hsz:=hf.size;have hb2:RowAt w1 (w.heap.size+1) 35 [.slice none 0 0,.slice none 0 0]:=hk _ _ _ (by first|with_reducible exact rr1 _ _ _ _ rfl|with_reducible exact rf1 _ _ _ _ _ rfl) (by decide);have hb1:RowAt w1 w.heap.size 35 [.slice q nn c,.slice p nf d]:=hk _ _ _ (by first|with_reducible exact rr0 _ _ _ _ rfl|with_reducible exact rf0 _ _ _ _ _ rfl) (by decide);have e0:=hb1.cell (i:=0) rfl;have e1:=hb1.cell (i:=1) rfl;have hSS:Fresh w w1∧w1.cell? ⟨w.heap.size,0,none⟩=some (.slice q nn c)∧w1.cell? ⟨w.heap.size,1,none⟩=some (.slice p nf d):=⟨hf,e0,e1⟩))
  all_goals (go_wp2_with fail)
  all_goals go_meet
  all_goals first
   | exact⟨qs,cs,qf,cf,(hb2b.set 0 _).set 1 _,(hosb.setO hb2b (by decide) _ _).setO (hb2b.set 0 _) (by decide) _ _,(hof.setO hb2b (by decide) _ _).setO (hb2b.set 0 _) (by decide) _ _,hcs,hds,fset (fset hf2 (by omega) _) (by omega) _⟩
   | exact⟨qs,cs,qf,cf,(hb2b.set 0 _).set 1 _,(hos.setO hb2b (by decide) _ _).setO (hb2b.set 0 _) (by decide) _ _,(hofb.setO hb2b (by decide) _ _).setO (hb2b.set 0 _) (by decide) _ _,hcs,hds,fset (fset hf2 (by omega) _) (by omega) _⟩
 case rest =>
  obtain⟨q',c',p',d',hr,ho,ho2,h1,h2,hf⟩:=hcut
  have k0:=hr.cell (i:=0) rfl
  have k1:=hr.cell (i:=1) rfl
  go_wp2
  refine bodyPost_ret (v:=.agg #[.slice q' nn c',.slice p' nf d']) (by simp[results,Tryz.results95,go_sem,k0,k1]) rfl ?_
  exact⟨q',c',p',d',rfl,ho,ho2,h1,h2,hf⟩
set_option maxHeartbeats 8000000 in
set_option maxRecDepth 20000 in
theorem l2Own_any (v:Value) (n:Net) (w:World) (h:NetIn w v n):Calls Tryz.prog 85 #[v] w (OutNetC w n):=by
 obtain⟨q,c,p,d,rfl,hq,hp,hnn,hnf,_⟩:=h
 have HS:Hid (∀ W,Fresh w W→Cells W q (n.nodes.map Value.string)):=fun W hW=>Cells.keep hq hW
 have HP:Hid (∀ W,Fresh w W→Cells W p (n.fibers.flatMap fibC)):=fun W hW=>Cells.keep hp hW
 obtain⟨nn,hn1⟩:∃ k,k=n.nodes.length:=⟨_,rfl⟩
 obtain⟨nf,hn2⟩:∃ k,k=n.fibers.length:=⟨_,rfl⟩
 have hls:(n.nodes.map Value.string).length=nn * 1:=by simp[hn1]
 have hlf:(n.fibers.flatMap fibC).length=nf * 4:=by rw[flat_len fibC 4 (fun _=>rfl),hn2]
 unfold OutNetC
 rw[← hn1,← hn2]
 rw[← hn1] at hnn
 rw[← hn2] at hnf
 have HLS:=Lib.hid hls
 have HLF:=Lib.hid hlf
 clear hq hp hn1 hn2 hls hlf
 go_enter Tryz.func85,Tryz.ntmps85
 go_upto_region 1 with fail
 go_cut [] (fun wx=>∃ q' c' p' d',RowAt wx (w.heap.size+1) 35 [.slice q' nn c',.slice p' nf d']∧Own wx w.heap.size 9 q' (n.nodes.map Value.string)∧Own wx w.heap.size 163 p' (n.fibers.flatMap fibC)∧nn≤c'∧c'≤9223372036854775807∧Fresh w wx)
 case first =>
  have HSS0:Fresh w ((w.alloc (.cells #[.slice q nn c,.slice p nf d] 35)).alloc (.cells #[.slice none 0 0,.slice none 0 0] 35))∧((w.alloc (.cells #[.slice q nn c,.slice p nf d] 35)).alloc (.cells #[.slice none 0 0,.slice none 0 0] 35)).cell? ⟨w.heap.size,0,none⟩=some (.slice q nn c)∧((w.alloc (.cells #[.slice q nn c,.slice p nf d] 35)).alloc (.cells #[.slice none 0 0,.slice none 0 0] 35)).cell? ⟨w.heap.size,1,none⟩=some (.slice p nf d) :=
   ⟨fnew (fnew (frefl _) _) _,((RowAt.new w 35 [.slice q nn c,.slice p nf d]).alloc _).cell (i:=0) rfl,((RowAt.new w 35 [.slice q nn c,.slice p nf d]).alloc _).cell (i:=1) rfl⟩
  go_region_held3 (fun w'=>Fresh w w'∧w'.cell? ⟨w.heap.size,0,none⟩=some (.slice q nn c)∧w'.cell? ⟨w.heap.size,1,none⟩=some (.slice p nf d))
   (first|with_reducible assumption|exact⟨fset (fset hf2 (by omega) _) (by omega) _,((hb1b.setOther (by omega) _).setOther (by omega) _).cell (i:=0) rfl,((hb1b.setOther (by omega) _).setOther (by omega) _).cell (i:=1) rfl⟩|with_reducible exact kp2 (by assumption) (fdrew (frefl _))|with_reducible exact kp2 (by assumption) (frefl _)|with_reducible exact kp2 (by assumption) (fnew (frefl _) _)|with_reducible exact kp2 (by assumption) (fdrew (fnew (frefl _) _))|with_reducible exact kp2 (by assumption) (fdrew (fnew (fnew (frefl _) _) _))|with_reducible exact kp2 (by assumption) (fnew (fnew (frefl _) _) _))
   (first|(have _h:=hk;refine step_app0D (some 6) rfl Tryz.underlying22 infoStr rfl (by decide) (by decide) w _ q nn _ (n.nodes.map Value.string) rfl _ _ rfl rfl (by first|with_reducible exact RowAt.new _ _ []|exact hk _ _ _ (by first|with_reducible exact rf2 _ _ _ _ _ rfl|with_reducible exact rf3 _ _ _ _ _ rfl) (by decide)) (by omega) rfl (HS.out _ (by first|with_reducible exact hf|with_reducible exact fnew hf _)) HLS.out (one_strs _) (by omega) (by first|with_reducible exact hf|with_reducible exact fnew hf _) ?_;intro qs cs w2 hos hcs hds hf2 hk2;have hb2b:RowAt w2 (w.heap.size+1) 35 [.slice none 0 0,.slice none 0 0]:=hk2 _ _ _ (by first|with_reducible exact hb2|with_reducible exact hb2.alloc _) (by decide);have hofb:Own w2 w.heap.size 163 qf (n.fibers.flatMap fibC):=Own.grown (by first|exact hof|exact hof.keep (fnew (frefl _) _)) hk2 (by decide);have hb1b:RowAt w2 w.heap.size 35 [.slice q nn c,.slice p nf d]:=hk2 _ _ _ (by first|with_reducible exact hb1|with_reducible exact hb1.alloc _) (by decide);have hSS2:Fresh w w2∧w2.cell? ⟨w.heap.size,0,none⟩=some (.slice q nn c)∧w2.cell? ⟨w.heap.size,1,none⟩=some (.slice p nf d):=⟨hf2,(hk2 _ _ _ (by first|with_reducible exact hb1|with_reducible exact hb1.alloc _) (by decide)).cell (i:=0) rfl,(hk2 _ _ _ (by first|with_reducible exact hb1|with_reducible exact hb1.alloc _) (by decide)).cell (i:=1) rfl⟩;have f0:=hb2b.cell (i:=0) rfl;have f1:=hb2b.cell (i:=1) rfl;have z0:=hb2b.frozen 0;have z1:=hb2b.frozen 1)|(have _h:=hk;refine step_app0D (some 10) rfl Tryz.underlying33 infoFib rfl (by decide) (by decide) w _ p nf _ (n.fibers.flatMap fibC) rfl _ _ rfl rfl (by first|with_reducible exact RowAt.new _ _ []|exact hk _ _ _ (by first|with_reducible exact rf2 _ _ _ _ _ rfl|with_reducible exact rf3 _ _ _ _ _ rfl) (by decide)) (by omega) rfl (HP.out _ (by first|with_reducible exact hf|with_reducible exact fnew hf _)) HLF.out (one_fibs _) (by omega) (by first|with_reducible exact hf|with_reducible exact fnew hf _) ?_;intro qf cf w2 hof hcf hdf hf2 hk2;have hb2b:RowAt w2 (w.heap.size+1) 35 [.slice none 0 0,.slice none 0 0]:=hk2 _ _ _ (by first|with_reducible exact hb2|with_reducible exact hb2.alloc _) (by decide);have hosb:Own w2 w.heap.size 9 qs (n.nodes.map Value.string):=Own.grown (by first|exact hos|exact hos.keep (fnew (frefl _) _)) hk2 (by decide);have hb1b:RowAt w2 w.heap.size 35 [.slice q nn c,.slice p nf d]:=hk2 _ _ _ (by first|with_reducible exact hb1|with_reducible exact hb1.alloc _) (by decide);have hSS2:Fresh w w2∧w2.cell? ⟨w.heap.size,0,none⟩=some (.slice q nn c)∧w2.cell? ⟨w.heap.size,1,none⟩=some (.slice p nf d):=⟨hf2,(hk2 _ _ _ (by first|with_reducible exact hb1|with_reducible exact hb1.alloc _) (by decide)).cell (i:=0) rfl,(hk2 _ _ _ (by first|with_reducible exact hb1|with_reducible exact hb1.alloc _) (by decide)).cell (i:=1) rfl⟩;have f0:=hb2b.cell (i:=0) rfl;have f1:=hb2b.cell (i:=1) rfl;have z0:=hb2b.frozen 0;have z1:=hb2b.frozen 1)|(refine step_app0D (some 6) rfl Tryz.underlying22 infoStr rfl (by decide) (by decide) w _ q nn _ (n.nodes.map Value.string) rfl _ _ rfl rfl (by first|with_reducible exact rr2 _ _ _ _ rfl|with_reducible exact rf2 _ _ _ _ _ rfl|with_reducible exact rf3 _ _ _ _ _ rfl) (by omega) rfl (HS.out _ (by first|with_reducible exact fdrew (fnew (fnew (fnew (fnew (frefl _) _) _) _) _)|with_reducible exact fdrew (fnew (fnew (fnew (frefl _) _) _) _))) HLS.out (one_strs _) (by omega) (by first|with_reducible exact fdrew (fnew (fnew (fnew (fnew (frefl _) _) _) _) _)|with_reducible exact fdrew (fnew (fnew (fnew (frefl _) _) _) _)) ?_;intro qs cs w1 hos hcs hds hf hk;have hsz:=hf.size;have hb2:RowAt w1 (w.heap.size+1) 35 [.slice none 0 0,.slice none 0 0]:=hk _ _ _ (by first|with_reducible exact rr1 _ _ _ _ rfl|with_reducible exact rf1 _ _ _ _ _ rfl) (by decide);have hb1:RowAt w1 w.heap.size 35 [.slice q nn c,.slice p nf d]:=hk _ _ _ (by first|with_reducible exact rr0 _ _ _ _ rfl|with_reducible exact rf0 _ _ _ _ _ rfl) (by decide);have e0:=hb1.cell (i:=0) rfl;have e1:=hb1.cell (i:=1) rfl;have hSS:Fresh w w1∧w1.cell? ⟨w.heap.size,0,none⟩=some (.slice q nn c)∧w1.cell? ⟨w.heap.size,1,none⟩=some (.slice p nf d):=⟨hf,e0,e1⟩)|(refine step_app0D (some 10) rfl Tryz.underlying33 infoFib rfl (by decide) (by decide) w _ p nf _ (n.fibers.flatMap fibC) rfl _ _ rfl rfl (by first|with_reducible exact rr2 _ _ _ _ rfl|with_reducible exact rf2 _ _ _ _ _ rfl|with_reducible exact rf3 _ _ _ _ _ rfl) (by omega) rfl (HP.out _ (by first|with_reducible exact fdrew (fnew (fnew (fnew (fnew (frefl _) _) _) _) _)|with_reducible exact fdrew (fnew (fnew (fnew (frefl _) _) _) _))) HLF.out (one_fibs _) (by omega) (by first|with_reducible exact fdrew (fnew (fnew (fnew (fnew (frefl _) _) _) _) _)|with_reducible exact fdrew (fnew (fnew (fnew (frefl _) _) _) _)) ?_;intro qf cf w1 hof hcf hdf hf hk;have hsz:=hf.size;have hb2:RowAt w1 (w.heap.size+1) 35 [.slice none 0 0,.slice none 0 0]:=hk _ _ _ (by first|with_reducible exact rr1 _ _ _ _ rfl|with_reducible exact rf1 _ _ _ _ _ rfl) (by decide);have hb1:RowAt w1 w.heap.size 35 [.slice q nn c,.slice p nf d]:=hk _ _ _ (by first|with_reducible exact rr0 _ _ _ _ rfl|with_reducible exact rf0 _ _ _ _ _ rfl) (by decide);have e0:=hb1.cell (i:=0) rfl;have e1:=hb1.cell (i:=1) rfl;have hSS:Fresh w w1∧w1.cell? ⟨w.heap.size,0,none⟩=some (.slice q nn c)∧w1.cell? ⟨w.heap.size,1,none⟩=some (.slice p nf d):=⟨hf,e0,e1⟩))
  all_goals (go_wp2_with fail)
  all_goals go_meet
  all_goals first
   | exact⟨qs,cs,qf,cf,(hb2b.set 0 _).set 1 _,(hosb.setO hb2b (by decide) _ _).setO (hb2b.set 0 _) (by decide) _ _,(hof.setO hb2b (by decide) _ _).setO (hb2b.set 0 _) (by decide) _ _,hcs,hds,fset (fset hf2 (by omega) _) (by omega) _⟩
   | exact⟨qs,cs,qf,cf,(hb2b.set 0 _).set 1 _,(hos.setO hb2b (by decide) _ _).setO (hb2b.set 0 _) (by decide) _ _,(hofb.setO hb2b (by decide) _ _).setO (hb2b.set 0 _) (by decide) _ _,hcs,hds,fset (fset hf2 (by omega) _) (by omega) _⟩
 case rest =>
  obtain⟨q',c',p',d',hr,ho,ho2,h1,h2,hf⟩:=hcut
  have k0:=hr.cell (i:=0) rfl
  have k1:=hr.cell (i:=1) rfl
  go_wp2
  refine bodyPost_ret (v:=.agg #[.slice q' nn c',.slice p' nf d']) (by simp[results,Tryz.results85,go_sem,k0,k1]) rfl ?_
  exact⟨q',c',p',d',rfl,ho,ho2,h1,h2,hf⟩
theorem wpList_app0 {T E:TypeId} {z:Value} {size bytes:Nat} (hu:Tryz.prog.underlying T=some (.slice E)) (hinfo:(Tryz.prog.info? E).map (fun i=>(i.zero,i.size,i.bytes))=some (some z,size,bytes))
  (hzs:z.cells.size=size) (hsz:0<size) (hby:bytes≤128) {ops:Array Oper} {rest:List Oper} {o:Oper} {a:Act} {w:World} {Q:Exit→Act→World→Prop} (w0:World) (g:Nat) (p:Option Addr) (m c:Nat) (news:List Value)
  (hgd:o.guard=none) (s t:Operand) (ho:o.op=.call { callee:=.builtin .append,args:=#[s,t],argTypes:=#[T,T] }) (hs:a.eval s=.slice (some ⟨g,0,none⟩) 0 0) (hr:RowAt w g E []) (hg:w0.heap.size≤g)
  (hx:a.eval t=.slice p m c) (hc:Cells w p news) (hl:news.length=m * size) (hone:∀ u∈news,u.oneCell'=true) (hm:m≤1048576) (hf:Fresh w0 w)
  (h:∀ q' c' w',Own w' w0.heap.size E q' news→m≤c'→c'≤9223372036854775807→Fresh w0 w'→(∀ g t cs,RowAt w g t cs→t≠E→RowAt w' g t cs)→wpList Tryz.prog ops Q rest (a.put o.dst (.slice q' m c')) w') :
  wpList Tryz.prog ops Q (o :: rest) a w :=
 wpList_plain hgd fun K hK=>by
  have hw:Region.wanted o (yielded #[] a.tmps)=true:=by simp[Region.wanted,hgd]
  have:=step_app0 (ops:=#[]) (K:=K) (Q:=Q) (F:=True) hu hinfo hzs hsz hby w0 g p m c news hgd s t ho hs hr hg hx hc hl hone hm hf fun q' c' w' h1 h2 h3 h4 h5=>hK _ _ (h q' c' w' h1 h2 h3 h4 h5)
  rw[if_pos hw] at this
  exact this
set_option maxHeartbeats 2000000 in
theorem l1Own_any (q:Option Addr) (cap:Nat) (l:List Int) (w:World) (hI:Ints w q l) (hn:l.length≤1048576) :
  Calls Tryz.prog 160 #[.slice q l.length cap] w fun e w'=>∃ q' c',e=.returned (.slice q' l.length c')∧Own w' w.heap.size 3 q' (l.map iv)∧Fresh w w':=by
 have HI:Hid (∀ a:Obj,Cells (w.alloc a) q (l.map iv)):=fun a=>hI.keep (fnew (frefl _) _)
 clear hI
 go_enter Tryz.func160,Tryz.ntmps160
 go_wp2_with (at_builtin;refine wpList_app0 Tryz.underlying29 infoInt rfl (by decide) (by decide) w w.heap.size q l.length cap (l.map iv) rfl _ _ rfl rfl (RowAt.new w 3 []) (Nat.le_refl _) rfl (HI.out _) (by simp) (one_ints l) hn (fnew (frefl _) _) ?_;intro q' c' w' ho hc1 hc2 hf hk)
 have HO:=Lib.hid ho
 have HF:=Lib.hid hf
 clear ho hf hk
 go_wp2
 go_ret
 exact⟨q',c',rfl,HO.out,HF.out⟩
set_option maxHeartbeats 2000000 in
set_option maxRecDepth 20000 in
theorem l4Own_any (s:Int) (q:Option Addr) (cap:Nat) (l:List Int) (w:World) (hI:Ints w q l) (hn:l.length≤1048576) :
  Calls Tryz.prog 113 #[.agg #[.int .i64 s,.slice q l.length cap]] w fun e w'=>∃ q' c',e=.returned (.agg #[.int .i64 s,.slice q' l.length c'])∧Own w' w.heap.size 3 q' (l.map iv)∧Fresh w w':=by
 obtain⟨W2,hW2,hsz2,hf2,r1,r2⟩:=two_rows w [.int .i64 s,.slice q l.length cap] [.int .i64 0,.slice none 0 0] 90 90
 have HI:=Lib.hid (hI.keep hf2)
 have HF2:=Lib.hid hf2
 have HR1:=Lib.hid r1
 have HR2:=Lib.hid r2
 have HW2:=Lib.hid hW2
 have hsz:=hf2.size
 have HSS:Fresh w W2∧W2.cell? ⟨w.heap.size,0,none⟩=some (.int .i64 s)∧W2.cell? ⟨w.heap.size,1,none⟩=some (.slice q l.length cap):=⟨hf2,r1.cell (i:=0) rfl,r1.cell (i:=1) rfl⟩
 clear hI hf2 r1 r2 hW2
 go_enter Tryz.func113,Tryz.ntmps113
 go_wp2_with fail
 rw[← HW2.out]
 go_region_held3 (fun w'=>Fresh w w'∧w'.cell? ⟨w.heap.size,0,none⟩=some (.int .i64 s)∧w'.cell? ⟨w.heap.size,1,none⟩=some (.slice q l.length cap))
  (first|with_reducible assumption|exact⟨fset (fset (fstep HF2.out hfr) (by omega) _) (by omega) _,((hr1.setOther (by omega) _).setOther (by omega) _).cell (i:=0) rfl,((hr1.setOther (by omega) _).setOther (by omega) _).cell (i:=1) rfl⟩|with_reducible exact kp2 HSS hfr|with_reducible exact kp2 HSS (fdrew (frefl _))|with_reducible exact kp2 HSS (frefl _))
  (first|(go_at_call 160;refine(l1Own_any q cap l _ (HI.out.keep (fdrew (frefl _))) hn).mono ?_;rintro e w1 ⟨q',c',rfl,ho,hb⟩;have hfr:Fresh W2 w1:=fstep (fdrew (frefl _)) hb;have hr:=HR2.out.keep hfr;have hr1:=HR1.out.keep hfr;have f0:=hr.cell (i:=0) rfl;have f1:=hr.cell (i:=1) rfl;have z0:=hr.frozen 0;have z1:=hr.frozen 1;have hsw:=hfr.size))
 have HO:=Lib.hid (ho.mono (by simpa using hsz))
 have HF:=Lib.hid (fstep HF2.out hfr)
 have HR:=Lib.hid hr
 have k0:=((hr.set 0 (.int .i64 s)).set 1 (.slice q' l.length c')).cell (i:=0) rfl
 have k1:=((hr.set 0 (.int .i64 s)).set 1 (.slice q' l.length c')).cell (i:=1) rfl
 clear ho hb hr hr1 HSS
 go_wp2
 refine bodyPost_ret (v:=.agg #[.int .i64 s,.slice q' l.length c']) (by simp[results,Tryz.results113,go_sem,k0,k1]) rfl ?_
 exact⟨q',c',rfl,(HO.out.setO HR.out (by decide) _ _).setO (HR.out.set 0 _) (by decide) _ _,fset (fset HF.out (by omega) _) (by omega) _⟩
theorem kp5 {w w1 w2:World} {b:Nat} {v0 v1 v2 v3 v4:Value} (h:Fresh w w1∧w1.cell? ⟨b,0,none⟩=some v0∧w1.cell? ⟨b,1,none⟩=some v1∧w1.cell? ⟨b,2,none⟩=some v2∧w1.cell? ⟨b,3,none⟩=some v3∧w1.cell? ⟨b,4,none⟩=some v4) (hb:Fresh w1 w2) :
  Fresh w w2∧w2.cell? ⟨b,0,none⟩=some v0∧w2.cell? ⟨b,1,none⟩=some v1∧w2.cell? ⟨b,2,none⟩=some v2∧w2.cell? ⟨b,3,none⟩=some v3∧w2.cell? ⟨b,4,none⟩=some v4 :=
 ⟨fstep h.1 hb,fkeep hb h.2.1,fkeep hb h.2.2.1,fkeep hb h.2.2.2.1,fkeep hb h.2.2.2.2.1,fkeep hb h.2.2.2.2.2⟩
theorem s5 {w0 w:World} {b:Nat} {t:TypeId} {v0 v1 v2 v3 v4:Value} (hf:Fresh w0 w) (h:RowAt w b t [v0,v1,v2,v3,v4]):Fresh w0 w∧w.cell? ⟨b,0,none⟩=some v0∧w.cell? ⟨b,1,none⟩=some v1∧w.cell? ⟨b,2,none⟩=some v2∧w.cell? ⟨b,3,none⟩=some v3∧w.cell? ⟨b,4,none⟩=some v4 :=
 ⟨hf,h.cell (i:=0) rfl,h.cell (i:=1) rfl,h.cell (i:=2) rfl,h.cell (i:=3) rfl,h.cell (i:=4) rfl⟩
theorem DistL.snoc {l:List LL} (h:DistL l) {x:LL} (hx:∀ y∈l,∀ g o h o',x.r.q=some ⟨g,o,none⟩→y.r.q=some ⟨h,o',none⟩→g≠h):DistL (l++[x]):=by
 intro i j a b hij ha hb g o h' o' e1 e2
 have at':∀ (k:Nat) (y:LL),(l++[x])[k]?=some y→(k<l.length∧l[k]?=some y)∨(k=l.length∧y=x):=by
  intro k y hk
  rw[List.getElem?_append] at hk
  split at hk
  ·next hlt=>exact Or.inl ⟨hlt,hk⟩
  ·next hge =>
   rcases Nat.eq_zero_or_pos (k - l.length) with h0|h0
   ·rw[h0] at hk;simp at hk;exact Or.inr ⟨by omega,hk.symm⟩
   ·rw[List.getElem?_eq_none (by simp;omega)] at hk;cases hk
 rcases at' i a ha with⟨_,h1⟩|⟨hi,rfl⟩
 ·rcases at' j b hb with⟨_,h2⟩|⟨hj,rfl⟩
  ·exact h i j a b hij h1 h2 g o h' o' e1 e2
  ·exact(hx a (List.mem_of_getElem? h1) h' o' g o e2 e1).symm
 ·rcases at' j b hb with⟨_,h2⟩|⟨hj,rfl⟩
  ·exact hx b (List.mem_of_getElem? h2) g o h' o' e1 e2
  ·omega
theorem owns_setO {w:World} {base g:Nat} {E T:TypeId} {size n:Nat} {v u:Value} {xs cs:List Value} (h:w.ownsRow base E size v n xs) (hr:RowAt w g T cs) (hT:E≠T) (i:Nat):(w.setCell ⟨g,i,none⟩ u).ownsRow base E size v n xs:=by
 obtain⟨h1,h2|⟨b,cap,cur,hv,hb,hh,h3⟩⟩:=h
 ·exact⟨h1,Or.inl h2⟩
 ·refine⟨h1,Or.inr ⟨b,cap,cur,hv,hb,?_,h3⟩⟩
  have hne:b≠g:=by
   intro e
   subst e
   unfold RowAt at hr
   rw[hh] at hr
   simp only[Option.some.injEq,Obj.cells.injEq] at hr
   exact hT hr.2.1
  rw[Below.heap_setCell _ _ _ _ hne];exact hh
theorem owns_lt {w:World} {base:Nat} {E:TypeId} {size n:Nat} {v:Value} {xs:List Value} (h:w.ownsRow base E size v n xs) {g:Nat} (hv:v.ownBlock=some g):g<w.heap.size:=by
 rcases h.2 with⟨rfl,_⟩|⟨b,cap,cur,rfl,_,hh,_⟩
 ·cases hv
 ·simp only[Value.ownBlock,Option.some.injEq] at hv
  subst hv
  rcases Nat.lt_or_ge b w.heap.size with h' | h'
  ·exact h'
  ·rw[Array.getElem?_eq_none h'] at hh;cases hh
theorem step_app_b {T E:TypeId} {z:Value} {size bytes:Nat} (hu:Tryz.prog.underlying T=some (.slice E)) (hinfo:(Tryz.prog.info? E).map (fun i=>(i.zero,i.size,i.bytes))=some (some z,size,bytes))
  (hzs:z.cells.size=size) (hsz:0<size) (hby:bytes≤128) {ops:Array Oper} {o:Oper} {a:Act} {K:Act→World→Prop} {Q:Exit→Act→World→Prop} {F:Prop} (w0 w1:World) (v:Value) (n:Nat) (xs news:List Value)
  (g0:Nat) (hl:news.length=size) (hone:∀ u∈news,u.oneCell'=true) (hgd:o.guard=none) (s t:Operand)
  (ho:o.op=.call { callee:=.builtin .append,args:=#[s,t],argTypes:=#[T,T] }) (hs:a.eval s=v) (hown:w1.ownsRow w0.heap.size E size v n xs)
  (hx:a.eval t=.slice (some ⟨g0,0,none⟩) 1 1) (hg0:g0=w1.heap.size) (hn:n≤1048576) (hf:Fresh w0 w1)
  (h:∀ v' w',w'.ownsRow w0.heap.size E size v' (n+1) (xs++news)→Fresh w0 w'→(∀ g t cs,RowAt w1 g t cs→(t≠E∨v.ownBlock≠some g)→RowAt w' g t cs)→K (a.put o.dst v') w') :
  if Region.wanted o (yielded ops a.tmps)=true then Oper.wp Tryz.prog o a (w1.alloc (.cells news.toArray E)) K Q else F:=by
 have hw:Region.wanted o (yielded ops a.tmps)=true:=by simp[Region.wanted,hgd]
 rw[if_pos hw]
 subst hg0
 obtain⟨i0,hi,hz0,hz1,hz2⟩:=info_parts hinfo
 refine wp_append_own _ s t T ho w0.heap.size E i0 z size bytes hu hi hz0 hz1 hz2 hzs hsz v n xs hs (hown.alloc _) ⟨w1.heap.size,0,none⟩ 1 1 news hx (by omega)
  (add_new w1 E news) hone (by unfold maxLen;omega) (Nat.le_trans (Nat.mul_le_mul (by omega:n+1≤1048577) hby) (by omega)) (Nat.le_trans hf.size (by simp)) ?_
 intro v' w' hown' hgrow _
 refine h v' w' hown' (fgrown (fnew hf _) hgrow (own_block hown)) fun g t cs hr ht=>?_
 rcases ht with ht|ht
 ·exact row_grown hown hgrow hr ht
 ·have hba:=hr.alloc (.cells news.toArray E)
  unfold RowAt
  rw[hgrow.block g hba.lt (fun he=>ht he.symm)]
  exact hba
theorem wpList_app_b {T E:TypeId} {z:Value} {size bytes:Nat} (hu:Tryz.prog.underlying T=some (.slice E)) (hinfo:(Tryz.prog.info? E).map (fun i=>(i.zero,i.size,i.bytes))=some (some z,size,bytes))
  (hzs:z.cells.size=size) (hsz:0<size) (hby:bytes≤128) {ops:Array Oper} {rest:List Oper} {o:Oper} {a:Act} {Q:Exit→Act→World→Prop} (w0 w1:World) (v:Value) (n:Nat) (xs news:List Value)
  (g0:Nat) (hl:news.length=size) (hone:∀ u∈news,u.oneCell'=true) (hgd:o.guard=none) (s t:Operand)
  (ho:o.op=.call { callee:=.builtin .append,args:=#[s,t],argTypes:=#[T,T] }) (hs:a.eval s=v) (hown:w1.ownsRow w0.heap.size E size v n xs)
  (hx:a.eval t=.slice (some ⟨g0,0,none⟩) 1 1) (hg0:g0=w1.heap.size) (hn:n≤1048576) (hf:Fresh w0 w1)
  (h:∀ v' w',w'.ownsRow w0.heap.size E size v' (n+1) (xs++news)→Fresh w0 w'→(∀ g t cs,RowAt w1 g t cs→(t≠E∨v.ownBlock≠some g)→RowAt w' g t cs)→wpList Tryz.prog ops Q rest (a.put o.dst v') w') :
  wpList Tryz.prog ops Q (o :: rest) a (w1.alloc (.cells news.toArray E)) :=
 wpList_plain hgd fun K hK=>by
  have hw:Region.wanted o (yielded #[] a.tmps)=true:=by simp[Region.wanted,hgd]
  have:=step_app_b (ops:=#[]) (K:=K) (Q:=Q) (F:=True) hu hinfo hzs hsz hby w0 w1 v n xs news g0 hl hone hgd s t ho hs hown hx hg0 hn hf fun v' w' h1 h2 h3=>hK _ _ (h v' w' h1 h2 h3)
  rw[if_pos hw] at this
  exact this
set_option maxHeartbeats 2000000 in
set_option maxRecDepth 20000 in
theorem l9Copy_any (x:LL) (w:World) (hI:Ints w x.r.q x.r.fibs) (hn:x.r.fibs.length≤1048576) :
  Calls Tryz.prog 86 #[llV x] w fun e w'=>∃ q' c',e=.returned (.agg #[iv x.id,iv x.r.start,.slice q' x.r.fibs.length c',iv x.f,iv x.c])∧Own w' w.heap.size 3 q' (x.r.fibs.map iv)∧Fresh w w':=by
 obtain⟨id,⟨s,q,cap,l⟩,bf,bc⟩:=x
 simp only at hI hn ⊢
 obtain⟨W2,hW2,hsz2,hf2,r1,r2⟩:=two_rows w [.int .i64 id,.int .i64 s,.slice q l.length cap,.int .i64 bf,.int .i64 bc] [.int .i64 0,.int .i64 0,.slice none 0 0,.int .i64 0,.int .i64 0] 94 94
 have HI:=Lib.hid (hI.keep hf2)
 have HF2:=Lib.hid hf2
 have HR1:=Lib.hid r1
 have HR2:=Lib.hid r2
 have HW2:=Lib.hid hW2
 have hsz:=hf2.size
 have HSS:=s5 hf2 r1
 clear hI hf2 r1 r2 hW2
 go_enter Tryz.func86,Tryz.ntmps86
 go_wp2_with fail
 rw[← HW2.out]
 go_region_held3 (fun w'=>Fresh w w'∧w'.cell? ⟨w.heap.size,0,none⟩=some (.int .i64 id)∧w'.cell? ⟨w.heap.size,1,none⟩=some (.int .i64 s)∧w'.cell? ⟨w.heap.size,2,none⟩=some (.slice q l.length cap)∧w'.cell? ⟨w.heap.size,3,none⟩=some (.int .i64 bf)∧w'.cell? ⟨w.heap.size,4,none⟩=some (.int .i64 bc))
  (first|with_reducible assumption|exact s5 (fset (fset (fset (fset (fset (fstep HF2.out hfr) (by omega) _) (by omega) _) (by omega) _) (by omega) _) (by omega) _) (((((hr1.setOther (by omega) _).setOther (by omega) _).setOther (by omega) _).setOther (by omega) _).setOther (by omega) _)|with_reducible exact kp5 HSS hfr|with_reducible exact kp5 HSS (fdrew (frefl _))|with_reducible exact kp5 HSS (frefl _))
  (first|(go_at_call 113;refine(l4Own_any s q cap l _ (HI.out.keep (fdrew (frefl _))) hn).mono ?_;rintro e w1 ⟨q',c',rfl,ho,hb⟩;have hfr:Fresh W2 w1:=fstep (fdrew (frefl _)) hb;have hr:=HR2.out.keep hfr;have hr1:=HR1.out.keep hfr;have f0:=hr.cell (i:=0) rfl;have f1:=hr.cell (i:=1) rfl;have f2:=hr.cell (i:=2) rfl;have f3:=hr.cell (i:=3) rfl;have f4:=hr.cell (i:=4) rfl;have z0:=hr.frozen 0;have z1:=hr.frozen 1;have z2:=hr.frozen 2;have z3:=hr.frozen 3;have z4:=hr.frozen 4;have hsw:=hfr.size))
 have HO:=Lib.hid (ho.mono (by simpa using hsz))
 have HF:=Lib.hid (fstep HF2.out hfr)
 have HR:=Lib.hid hr
 have hfin:=((((hr.set 0 (.int .i64 id)).set 1 (.int .i64 s)).set 2 (.slice q' l.length c')).set 3 (.int .i64 bf)).set 4 (.int .i64 bc)
 have k0:=hfin.cell (i:=0) rfl
 have k1:=hfin.cell (i:=1) rfl
 have k2:=hfin.cell (i:=2) rfl
 have k3:=hfin.cell (i:=3) rfl
 have k4:=hfin.cell (i:=4) rfl
 clear ho hb hr hr1 HSS hfin
 go_wp2
 refine bodyPost_ret (v:=.agg #[.int .i64 id,.int .i64 s,.slice q' l.length c',.int .i64 bf,.int .i64 bc]) (by simp[results,Tryz.results86,go_sem,k0,k1,k2,k3,k4]) rfl ?_
 refine⟨q',c',rfl,?_,fset (fset (fset (fset (fset HF.out (by omega) _) (by omega) _) (by omega) _) (by omega) _) (by omega) _⟩
 exact((((HO.out.setO HR.out (by decide) _ _).setO (HR.out.set 0 _) (by decide) _ _).setO ((HR.out.set 0 _).set 1 _) (by decide) _ _).setO (((HR.out.set 0 _).set 1 _).set 2 _) (by decide) _ _).setO ((((HR.out.set 0 _).set 1 _).set 2 _).set 3 _) (by decide) _ _
section
variable {P:Program} {Q:Exit→Act→World→Prop} {md:Region.Mode} {S:World→Prop}
def headH (P:Program) (md:Region.Mode) (ops:Array Oper) (Q:Exit→Act→World→Prop) (S:World→Prop) (n:Nat) (L:Array Bool→Act→World→Prop):Nat→Array Bool→Act→World→Prop
 | 0,listed,a,w=>L listed a w
 | f+1,listed,a,w=>Region.ready md ops listed≠[]∧∀ i∈Region.ready md ops listed,i<n∧wpOp P ops Q i (fun a' w'=>S w'∧headH P md ops Q S n L f (listed.setIfInBounds i true) a' w') a w
theorem any_of_headH {ops:Array Oper} {n g:Nat} {L:Array Bool→Act→World→Prop} (hL:∀ listed a w,L listed a w→wpAny P md ops Q g listed a w) :
  ∀ (f:Nat) (listed:Array Bool) (a:Act) (w:World),headH P md ops Q S n L f listed a w→wpAny P md ops Q (f+g) listed a w:=by
 intro f
 induction f with
 | zero=>intro listed a w h;rw[Nat.zero_add];exact hL _ _ _ h
 | succ f ih =>
  intro listed a w h
  have e:f+1+g=(f+g)+1:=by omega
  rw[e]
  exact⟨fun h0=>absurd h0 h.1,fun i hi=>wpOp_mono (fun a' w' h'=>ih _ a' w' h'.2) (h.2 i hi).2⟩
theorem headH_first {ops:Array Oper} {n i:Nat} {oi:Oper} {v:Value} {L:Array Bool→Act→World→Prop} (hi:ops[i]?=some oi) (hsel:∀ (j:Nat) (o:Oper) cs b,ops[j]?=some o→o.op≠.select cs b)
  (hQ:∀ c a w,Q (.panic c) (a.put oi.dst v) w→Q (.panic c) a w)
  (hs:Region.sinkB md ops n=true) (hc:Region.chainB md ops n=true) (hn:n<ops.size) (hin:i<n) (hdone:∀ listed a w,L listed a w→∀ j∈Region.ready md ops listed,n≤j) :
  ∀ (f:Nat) (listed:Array Bool) (a:Act) (w:World),HeadInv md ops n listed →
   (∀ j oj,ops[j]?=some oj→j≠i→listed.getD j true=false→(∀ e∈oj.after,Region.binds md e=true→e.on≠i)→oi.apart ops oj=true) →
   i∈Region.ready md ops listed→YieldsIf P ops S oi v a→S w →
   headH P md ops Q S n L f (listed.setIfInBounds i true) (a.put oi.dst v) w→headH P md ops Q S n L (f+1) listed a w:=by
 have early:∀ (listed:Array Bool),HeadInv md ops n listed→i∈Region.ready md ops listed→∀ j∈Region.ready md ops listed,j<n:=by
  intro listed inv hr j hj
  rcases Nat.lt_or_ge j n with h|h
  ·exact h
  ·exact absurd hj (tail_waits hs hc hn inv _ i rfl hin (mem_ready.1 hr).1 j h)
 intro f
 induction f with
 | zero =>
  intro listed a w inv _ hr hy hS H
  refine⟨fun h=>(by rw[h] at hr;cases hr),fun j hj=>⟨early listed inv hr j hj,?_⟩⟩
  by_cases hji:j=i
  ·subst hji;exact hy.wpOp hi hS ⟨hS,H⟩
  ·have h1:=hdone _ _ _ H j (ready_mono hj hji)
   have h2:=early listed inv hr j hj
   omega
 | succ f ih =>
  intro listed a w inv hfree hr hy hS H
  refine⟨fun h=>(by rw[h] at hr;cases hr),fun j hj=>⟨early listed inv hr j hj,?_⟩⟩
  by_cases hji:j=i
  ·subst hji;exact hy.wpOp hi hS ⟨hS,H⟩
  ·have h1:=(H.2 j (ready_mono hj hji)).2
   obtain⟨hjun,oj,hoj,hall⟩:=mem_ready.1 hj
   have hnot:∀ e∈oj.after,Region.binds md e=true→e.on≠i:=fun e he hb heq=>by
    have h3:=hall e he hb
    rw[heq,getD_both (mem_ready.1 hr).1] at h3
    cases h3
   have h2:=wpOp_putIf hoj (hfree j oj hoj hji hjun hnot) (fun cs b=>hsel i oi cs b hi) (fun cs b=>hsel j oj cs b hoj) hQ hy h1
   refine wpOp_mono (fun a' w' h3=>⟨h3.2.1,ih (listed.setIfInBounds j true) a' w' (inv.set hj (early listed inv hr j hj)) (fun k ok hk hki hun hno=>?_) (ready_mono hr (Ne.symm hji)) h3.1 h3.2.1 ?_⟩) h2
   ·refine hfree k ok hk hki ?_ hno
    by_cases hjk:j=k
    ·subst hjk;exact hjun
    ·rw[getD_set_ne true hjk] at hun;exact hun
   ·rw[Array.setIfInBounds_comm _ _ hji]
    exact h3.2.2
def tailOk (md:Region.Mode) (ops:Array Oper) (n:Nat):Bool:=Region.noSelect ops && decide (n<ops.size) && Region.sinkB md ops n && Region.chainB md ops n
def HI (P:Program) (md:Region.Mode) (l:List Oper) (Q:Exit→Act→World→Prop) (S:World→Prop) (n f:Nat) (listed:Array Bool) (a:Act) (w:World):Prop :=
 HeadInv md l.toArray n listed→headH P md l.toArray Q S n (fun ls a' w'=>Region.seqB md l.toArray (l.toArray.size - n) n ls=true∧wpList P l.toArray Q (l.drop n) a' w') f listed a w
theorem hd_take {l:List Oper} {n f i:Nat} {oi:Oper} {v:Value} {listed:Array Bool} {a:Act} {w:World} (hi:l.toArray[i]?=some oi) (hT:tailOk md l.toArray n=true) (hin:decide (i<n)=true) (hf:Region.free md l.toArray listed i=true) (hr:(Region.ready md l.toArray listed).contains i=true)
  (hQ:∀ c a w,Q (.panic c) (a.put oi.dst v) w→Q (.panic c) a w) (hS:S w) (hy:YieldsIf P l.toArray S oi v a) (h:HI P md l Q S n f (listed.setIfInBounds i true) (a.put oi.dst v) w):HI P md l Q S n (f+1) listed a w:=by
 intro inv
 simp only[tailOk,Bool.and_eq_true,decide_eq_true_eq] at hT
 obtain⟨⟨⟨h1,h2⟩,h3⟩,h4⟩:=hT
 have hr':i∈Region.ready md l.toArray listed:=by simpa using hr
 have hin':i<n:=by simpa using hin
 exact headH_first hi (Region.noSelect_spec h1) hQ h3 h4 h2 hin' (fun _ _ _ hL=>seqB_ready hL.1) f listed a w inv (Region.free_spec hi hf) hr' hy hS (h (inv.set hr' hin'))
theorem hd_tk {l:List Oper} {n f i:Nat} {oi:Oper} {v:Value} {listed:Array Bool} {a:Act} {w:World} (hi:l.toArray[i]?=some oi) (hw:∀ w,S w→(execOp a.eval oi).run P w=.ok (.value v) w) (h:HI P md l Q S n f (listed.setIfInBounds i true) (a.put oi.dst v) w)
  (hT:tailOk md l.toArray n=true:=by kernel_rfl) (hin:decide (i<n)=true:=by kernel_rfl) (hf:Region.free md l.toArray listed i=true:=by kernel_rfl) (hr:(Region.ready md l.toArray listed).contains i=true:=by kernel_rfl)
  (hQ:∀ c a w,Q (.panic c) (a.put oi.dst v) w→Q (.panic c) a w:=by exact fun _ _ _ h=>h) (hS:S w:=by assumption) (hwt:Region.wanted oi (yielded l.toArray a.tmps)=true:=by rfl):HI P md l Q S n (f+1) listed a w :=
 hd_take hi hT hin hf hr hQ hS (Or.inl ⟨hwt,hw⟩) h
theorem hd_one {l:List Oper} {n f i:Nat} {o:Oper} {listed:Array Bool} {a:Act} {w:World} (hi:l.toArray[i]?=some o) (hin:decide (i<n)=true) (hr:Region.ready md l.toArray listed=[i])
  (h:∀ K:Act→World→Prop,Shut (∀ a w,S w→(S w→HI P md l Q S n f (listed.setIfInBounds i true) a w)→K a w)→if Region.wanted o (yielded l.toArray a.tmps)=true then Oper.wp P o a w K Q else K (a.put o.dst undef) w):HI P md l Q S n (f+1) listed a w:=by
 intro inv
 have hin':i<n:=by simpa using hin
 refine⟨by rw[hr];simp,fun j hj=>?_⟩
 have hj':=hj
 rw[hr] at hj
 have:j=i:=by simpa using hj
 subst this
 exact⟨hin',wpOp_step hi fun K hK=>h K fun a w hS hW=>hK a w ⟨hS,hW hS (inv.set hj' hin')⟩⟩
def AllH (P:Program) (md:Region.Mode) (l:List Oper) (Q:Exit→Act→World→Prop) (S:World→Prop) (n f:Nat) (listed:Array Bool) (a:Act) (w:World) (rs:List Nat):Prop :=
 ∀ i∈rs,i<n∧wpOp P l.toArray Q i (fun a' w'=>S w'∧HI P md l Q S n f (listed.setIfInBounds i true) a' w') a w
theorem hd_nil {l:List Oper} {n f:Nat} {listed:Array Bool} {a:Act} {w:World}:AllH P md l Q S n f listed a w []:=fun _ h=>by cases h
theorem hd_cons {l:List Oper} {n f i:Nat} {o:Oper} {rs:List Nat} {listed:Array Bool} {a:Act} {w:World} (hi:l.toArray[i]?=some o) (hin:decide (i<n)=true)
  (h:∀ K:Act→World→Prop,Shut (∀ a w,S w→(S w→HI P md l Q S n f (listed.setIfInBounds i true) a w)→K a w)→if Region.wanted o (yielded l.toArray a.tmps)=true then Oper.wp P o a w K Q else K (a.put o.dst undef) w)
  (hs:AllH P md l Q S n f listed a w rs):AllH P md l Q S n f listed a w (i :: rs):=fun j hj=>by
 rcases List.mem_cons.1 hj with rfl|hj
 ·exact⟨by simpa using hin,wpOp_step hi fun K hK=>h K fun a w hS hW=>hK a w ⟨hS,hW hS⟩⟩
 ·exact hs j hj
theorem hd_ready {l:List Oper} {n f:Nat} {rs:List Nat} {listed:Array Bool} {a:Act} {w:World} (hr:Region.ready md l.toArray listed=rs) (hne:rs≠[]) (h:AllH P md l Q S n f listed a w rs):HI P md l Q S n (f+1) listed a w:=by
 intro inv
 refine⟨by rw[hr];exact hne,fun j hj=>?_⟩
 have hj':=hj
 rw[hr] at hj
 obtain⟨h1,h2⟩:=h j hj
 exact⟨h1,wpOp_mono (fun a' w' h3=>⟨h3.1,h3.2 (inv.set hj' h1)⟩) h2⟩
theorem hd_done {l:List Oper} {n:Nat} {listed:Array Bool} {a:Act} {w:World} (hq:Region.seqB md l.toArray (l.toArray.size - n) n listed=true) (h:wpList P l.toArray Q (l.drop n) a w):HI P md l Q S n 0 listed a w:=fun _=>⟨hq,h⟩
theorem hd_start {id n:Nat} {l:List Oper} {a:Act} {w:World} (hm:P.follows .mixedOrders=true) (hT:tailOk .any l.toArray n=true) (hS:S w.drew)
  (h:S w.drew→HI P .any l Q S n n (Array.replicate l.toArray.size false) a w.drew):(Code.region id l.toArray true).wp P Q a w:=by
 have hT':=hT
 simp only[tailOk,Bool.and_eq_true,decide_eq_true_eq] at hT'
 obtain⟨⟨⟨_,hn⟩,_⟩,_⟩:=hT'
 have hn':n<l.length:=by simpa using hn
 have hdl:(l.drop n).length=l.toArray.size - n:=by simp
 have inv0:HeadInv .any l.toArray n (Array.replicate l.toArray.size false) :=
  ⟨by simp,fun j oj _ hl=>(by rw[getD_replicate_false] at hl;cases hl),fun t _ ht=>getD_in (by simpa using ht) (getD_replicate_false _ _)⟩
 refine wp_region_any hm ?_
 have:=any_of_headH (Q:=Q) (g:=l.toArray.size - n) (fun listed a' w' hL=>by
  have:=wpAny_of_seq (md:=.any) (Q':=Q) (l.drop n) n listed a' w' (fun j=>by simp[List.getElem?_drop]) (by rw[hdl];exact hL.1) hL.2
  rwa [hdl] at this) _ _ _ _ (h hS inv0)
 rw[show n+(l.toArray.size - n)=l.toArray.size by omega] at this
 exact this
end
theorem llv_take {l:List LL} {k:Nat} {x:LL} (hx:l[k]?=some x):(l.take (k+1)).map LL.val=(l.take k).map LL.val++[x.val]:=by
 rw[List.take_add_one,hx];simp
theorem PlIn.parts {w:World} {v:Value} {P:PlanV} (h:PlIn w v P):∃ q c p d r e,∃ l:List LL,v=.agg #[.slice q P.net.nodes.length c,.slice p P.net.fibers.length d,.slice r l.length e]∧NetIn w (.agg #[.slice q P.net.nodes.length c,.slice p P.net.fibers.length d]) P.net∧Lts w r l∧LtsSmall l∧P.lights=l.map LL.val∧l.length≤e∧e≤9223372036854775807:=by
 obtain⟨q,m,c,p,k,d,r,e,l,rfl,h2,h3⟩:=h
 obtain⟨q',c',p',d',hv,hr⟩:=h2
 simp only[Value.agg.injEq] at hv
 have e1:=congrArg (fun a:Array Value=>a[0]?) hv
 have e2:=congrArg (fun a:Array Value=>a[1]?) hv
 simp at e1 e2
 obtain⟨rfl,rfl,rfl⟩:=e1
 obtain⟨rfl,rfl,rfl⟩:=e2
 exact⟨_,_,_,_,r,e,l,rfl,⟨_,_,_,_,rfl,hr⟩,h3⟩
theorem one_lt (x:LL):∀ u∈llC x,u.oneCell'=true:=by
 intro u hu
 simp[llC] at hu
 rcases hu with rfl|rfl|rfl|rfl|rfl <;> rfl
def PlOwnR (w:World) (base:Nat) (v:Value) (P:PlanV):Prop:=∃ q c p d r e,∃ l:List LL,v=.agg #[.slice q P.net.nodes.length c,.slice p P.net.fibers.length d,.slice r l.length e]∧Own w base 9 q (P.net.nodes.map Value.string)∧Own w base 163 p (P.net.fibers.flatMap fibC) ∧
 Own w base 94 r (l.flatMap llC)∧(∀ x∈l,Own w base 3 x.r.q (x.r.fibs.map iv))∧DistL l∧P.lights=l.map LL.val∧P.net.nodes.length≤c∧c≤9223372036854775807∧l.length≤e∧e≤9223372036854775807∧w.ownsRow base 94 5 (.slice r l.length e) l.length (l.flatMap llC)
theorem PlOwnR.own {w:World} {base:Nat} {v:Value} {P:PlanV} (h:PlOwnR w base v P):PlOwn w base v P:=by
 obtain⟨q,c,p,d,r,e,l,h1,h2,h3,h4,h5,h6,h7,h8,h9,h10,h11,_⟩:=h
 exact⟨q,c,p,d,r,e,l,h1,h2,h3,h4,h5,h6,h7,h8,h9,h10,h11⟩
set_option maxHeartbeats 8000000 in
set_option maxRecDepth 100000 in
theorem copyPlan_r (v:Value) (P:PlanV) (w:World) (h:PlIn w v P):Calls Tryz.prog 53 #[v] w fun e w'=>∃ v',e=.returned v'∧PlOwnR w' w.heap.size v' P∧Fresh w w':=by
 obtain⟨N,L⟩:=P
 obtain⟨q,c,p,d,r,e0,l,rfl,hN,hL,hs,hv,_⟩:=h.parts
 simp only at hN hv ⊢
 have hn:=hs.1
 obtain⟨nn,hnn⟩:∃ k,k=N.nodes.length:=⟨_,rfl⟩
 obtain⟨nf,hnf⟩:∃ k,k=N.fibers.length:=⟨_,rfl⟩
 rw[← hnn,← hnf] at hN ⊢
 obtain⟨W2,hW2,hsz2,hf2,r1,r2⟩:=two_rows w [.slice q nn c,.slice p nf d,.slice r l.length e0] [.slice none 0 0,.slice none 0 0,.slice none 0 0] 38 38
 have HC:=Lib.hid (copyNetwork_any (.agg #[.slice q nn c,.slice p nf d]) N W2 (hN.keep hf2))
 unfold OutNetC at HC
 rw[← hnn,← hnf] at HC
 have HL:=Lib.hid hL
 have HSM:=Lib.hid hs
 have HV:=Lib.hid hv
 have HF2:=Lib.hid hf2
 have HR1:=Lib.hid r1
 have HR2:=Lib.hid r2
 have HW2:=Lib.hid hW2
 have HNN:=Lib.hid hnn
 have HNF:=Lib.hid hnf
 have hsz:=hf2.size
 clear h hN hL hs hv hf2 r1 r2 hW2 hnn hnf
 go_enter Tryz.func53,Tryz.ntmps53
 go_wp2_with fail
 rw[← HW2.out]
 refine(HC.out).mono ?_
 rintro e w1 ⟨q',c',p',d',rfl,hoq,hop,hc1,hc2,hb⟩
 have HOQ:=Lib.hid (hoq.mono hsz)
 have HOP:=Lib.hid (hop.mono hsz)
 have HB:=Lib.hid hb
 have hszb:=hb.size
 have a2:=(HR1.out.keep hb).cell (i:=2) rfl
 obtain⟨W4,hW4⟩:∃ W4,W4=w1.alloc (.cells #[.slice q' nn c',.slice p' nf d',.slice none 0 0] 38):=⟨_,rfl⟩
 have hf4:Fresh w1 W4:=by rw[hW4];exact fnew (frefl _) _
 have HF4:=Lib.hid (fstep HF2.out (fstep hb hf4))
 have HR4:Hid (RowAt W4 w1.heap.size 38 [.slice q' nn c',.slice p' nf d',.slice none 0 0]):=by show RowAt _ _ _ _;rw[hW4];exact RowAt.new _ _ _
 have a2':=fun o:Obj=>fkeep (fnew (frefl w1) o) a2
 have HOQ4:=Lib.hid (HOQ.out.keep hf4)
 have HOP4:=Lib.hid (HOP.out.keep hf4)
 have HRZ4:=Lib.hid ((HR2.out.keep hb).keep hf4)
 have HW4:=Lib.hid hW4
 clear hoq hop hb hf4 hW4 HC
 go_wp2
 rw[← HW4.out]
 clear a2 a2'
 go_loopw [13] (fun i wr=>∃ (k:Nat) (V:Value) (l':List LL),k≤l.length∧i=.int .i64 k∧RowAt wr w1.heap.size 38 [.slice q' nn c',.slice p' nf d',V]∧wr.ownsRow w.heap.size 94 5 V l'.length (l'.flatMap llC)∧l'.map LL.val=(l.take k).map LL.val∧(∀ x∈l',Own wr w.heap.size 3 x.r.q (x.r.fibs.map iv))∧DistL l'∧(∀ x∈l',∀ g o,x.r.q=some ⟨g,o,none⟩→g<wr.heap.size)∧Own wr w.heap.size 9 q' (N.nodes.map Value.string)∧Own wr w.heap.size 163 p' (N.fibers.flatMap fibC)∧RowAt wr (w.heap.size+1) 38 [.slice none 0 0,.slice none 0 0,.slice none 0 0]∧Fresh w wr) (fun i _=>l.length - (intOf i).toNat)
 case atStart=>exact⟨0,.slice none 0 0,[],Nat.zero_le _,rfl,HR4.out,World.ownsRow_nil _ _ _ _,rfl,(by intro x hx;cases hx),(by intro i j x y _ hx;simp at hx),(by intro x hx;cases hx),HOQ4.out,HOP4.out,HRZ4.out,HF4.out⟩
 case round =>
  obtain⟨k,V,l',hk,rfl,hrp,how,hval,hio,hdi,hbl,hq4,hp4,hrz,hf⟩:=hrel
  have HRZ:=Lib.hid hrz
  have HRP:=Lib.hid hrp
  have HOW:=Lib.hid how
  have HVAL:=Lib.hid hval
  have HIO:=Lib.hid hio
  have HDI:=Lib.hid hdi
  have HBL:=Lib.hid hbl
  have HQ4:=Lib.hid hq4
  have HP4:=Lib.hid hp4
  have HFR:=Lib.hid hf
  have hll:l'.length=k:=by
   have:=congrArg List.length hval
   simp at this;omega
  have HLL:=Lib.hid hll
  have hl48:l'.length≤1048576:=by omega
  clear hll
  clear hrp how hval hio hdi hbl hq4 hp4 hrz
  by_cases hlt:k<l.length
  ·have hltz:(k:Int)<(l.length:Int):=by omega
   obtain⟨b,off,x,hrr,hx,hm,_,hc0,hc1',hc2',hc3,hc4⟩:=(HL.out.keep hf).at hlt
   subst hrr
   have hsm:=HSM.out.2 x hm
   have HX:=Lib.hid hx
   have HIX:=Lib.hid (HL.out.2 x hm)
   obtain⟨W5,hW5⟩:∃ W5,W5=wr.alloc (.cells #[iv x.id,iv x.r.start,.slice x.r.q x.r.fibs.length x.r.cap,iv x.f,iv x.c] 94):=⟨_,rfl⟩
   have hf5:Fresh wr W5:=by rw[hW5];exact fnew (frefl _) _
   have hbx:RowAt W5 wr.heap.size 94 [iv x.id,iv x.r.start,.slice x.r.q x.r.fibs.length x.r.cap,iv x.f,iv x.c]:=by rw[hW5];exact RowAt.new _ _ _
   have HF5:=Lib.hid (fstep hf hf5)
   have HF5':=Lib.hid hf5
   have HBX:=Lib.hid hbx
   have HRP5:=Lib.hid (HRP.out.keep hf5)
   have hgl:=HRP.out.lt
   have hgb:=(HRP.out.keep hf5).lt
   have hszf:=hf.size
   have HSS:=s5 (fstep hf hf5) hbx
   have hv5:=(HRP.out.keep hf5).cell (i:=2) rfl
   have HW5:=Lib.hid hW5
   clear hx hm hf5 hbx hf hW5
   go_wp2
   rw[← HW5.out]
   clear hc0 hc1' hc2' hc3 hc4
   refine hd_start (n:=11) (S:=fun w'=>(Fresh w w'∧w'.cell? ⟨wr.heap.size,0,none⟩=some (iv x.id)∧w'.cell? ⟨wr.heap.size,1,none⟩=some (iv x.r.start)∧w'.cell? ⟨wr.heap.size,2,none⟩=some (.slice x.r.q x.r.fibs.length x.r.cap)∧w'.cell? ⟨wr.heap.size,3,none⟩=some (iv x.f)∧w'.cell? ⟨wr.heap.size,4,none⟩=some (iv x.c))∧w'.cell? ⟨w1.heap.size,2,none⟩=some V) (by kernel_rfl) (by kernel_rfl) ⟨kp5 HSS (fdrew (frefl _)),fkeep (fdrew (frefl _)) hv5⟩ (fun hHeld=>?_)
   refine hd_tk (i:=0) (v:=?_) rfl ?_ ?_
   rotate_left
   ·(intro w hSw;(try dsimp only at hSw);go_simp;first|done|with_reducible rfl)
   refine hd_tk (i:=1) (v:=?_) rfl ?_ ?_
   rotate_left
   ·(intro w hSw;(try dsimp only at hSw);go_simp;first|done|with_reducible rfl)
   refine hd_tk (i:=2) (v:=?_) rfl ?_ ?_
   rotate_left
   ·(intro w hSw;(try dsimp only at hSw);go_simp;first|done|with_reducible rfl)
   refine hd_tk (i:=3) (v:=?_) rfl ?_ ?_
   rotate_left
   ·(intro w hSw;(try dsimp only at hSw);go_simp;first|done|with_reducible rfl)
   refine hd_tk (i:=4) (v:=?_) rfl ?_ ?_
   rotate_left
   ·(intro w hSw;(try dsimp only at hSw);go_simp;first|done|with_reducible rfl)
   refine hd_tk (i:=5) (v:=?_) rfl ?_ ?_
   rotate_left
   ·(intro w hSw;(try dsimp only at hSw);go_simp;first|done|with_reducible rfl)
   refine hd_tk (i:=7) (v:=?_) rfl ?_ ?_
   rotate_left
   ·(intro w hSw;(try dsimp only at hSw);go_simp;first|done|with_reducible rfl)
   refine hd_tk (i:=8) (v:=?_) rfl ?_ ?_
   rotate_left
   ·(intro w hSw;(try dsimp only at hSw);go_simp;first|done|with_reducible rfl)
   refine hd_one (i:=6) rfl (by kernel_rfl) (by kernel_rfl) (fun K hK=>?_)
   (go_simp;go_at_call 96;refine(copyRoute_any x.r.start x.r.q x.r.cap x.r.fibs _ (HIX.out.keep (fstep HF5.out (fdrew (frefl _)))) hsm).mono ?_;rintro e w2 ⟨qx,cx,rfl,hox,hbw⟩;have hfr:Fresh W5 w2:=fstep (fdrew (frefl _)) hbw;have hv6:=fkeep hfr hv5;go_wp2_with fail)
   refine hK.out _ _ ?_ (fun hHeld=>?_)
   ·exact⟨kp5 HSS hfr,hv6⟩
   clear hK K
   refine hd_tk (i:=9) (v:=?_) rfl ?_ ?_
   rotate_left
   ·(intro w hSw;(try dsimp only at hSw);go_simp;first|done|with_reducible rfl)
   refine hd_one (i:=10) rfl (by kernel_rfl) (by kernel_rfl) (fun K hK=>?_)
   go_simp
   refine hK.out _ _ ?_ (fun hHeld=>?_)
   ·exact⟨kp5 HSS (fnew hfr _),fkeep (fnew (frefl _) _) hv6⟩
   clear hK K
   refine hd_done (by kernel_rfl) ?_
   clear hHeld
   simp only[List.drop_succ_cons,List.drop_zero]
   go_wp2_with (at_builtin;refine wpList_app_b Tryz.underlying36 infoLt rfl (by decide) (by decide) w w2 V l'.length (l'.flatMap llC) [iv x.id,iv x.r.start,.slice qx x.r.fibs.length cx,iv x.f,iv x.c] _ rfl (one_lt ⟨x.id,⟨x.r.start,qx,cx,x.r.fibs⟩,x.f,x.c⟩) rfl _ _ rfl rfl (ownsRow_keep HOW.out (fstep HF5'.out hfr)) rfl rfl hl48 (fstep HF5.out hfr) ?_;intro v3 w3 hown3 hf3 hk3;obtain⟨r3,e3,hv3,_⟩:=owns_cap hown3;subst hv3;have hpl3:=hk3 _ _ _ (HRP5.out.keep hfr) (Or.inl (by decide));have hbx3:=hk3 _ _ _ (HBX.out.keep hfr) (Or.inr fun e=>absurd (owns_lt HOW.out e) (Nat.lt_irrefl _));have z2:=hpl3.frozen 2;have y2:=hpl3.cell (i:=2) rfl)
   all_goals (
    have HO3:=Lib.hid hown3
    have HF3:=Lib.hid hf3
    have HK3:=Lib.hid hk3
    have HPL3:=Lib.hid hpl3
    have HFR6:=Lib.hid hfr
    have HOX:=Lib.hid hox
    have hszw:W5.heap.size≤w2.heap.size:=hfr.size
    have hsz5:wr.heap.size<W5.heap.size:=HBX.out.lt
    have HHB:=Lib.hid hbw
    clear hown3 hf3 hk3 hpl3 hfr hox hbx3 hv5 hv6 HSS hbw z2 y2
    go_wp2
    go_roundw
    case rel =>
     have hS:∀ {t:TypeId} {pp:Option Addr} {cs:List Value},Own wr w.heap.size t pp cs→t≠94→t≠38→Own (w3.setCell ⟨w1.heap.size,2,none⟩ (.slice r3 (l'.length+1) e3)) w.heap.size t pp cs:=by
      intro t pp cs h n1 n2
      have h1:Own w2 w.heap.size t pp cs:=h.keep (fstep HF5'.out HFR6.out)
      have h2:Own w3 w.heap.size t pp cs:=by
       rcases h1 with h1|⟨g,sp,a1,a2,a3⟩
       ·exact Or.inl h1
       ·exact Or.inr ⟨g,sp,a1,a2,HK3.out _ _ _ a3 (Or.inl n1)⟩
      exact h2.setO HPL3.out n2 _ _
     have hox3:Own (w3.setCell ⟨w1.heap.size,2,none⟩ (.slice r3 (l'.length+1) e3)) w.heap.size 3 qx (x.r.fibs.map iv):=by
      have h1:Own w2 w.heap.size 3 qx (x.r.fibs.map iv):=HOX.out.mono (by simpa using (by omega:w.heap.size≤W5.heap.size))
      have h2:Own w3 w.heap.size 3 qx (x.r.fibs.map iv):=by
       rcases h1 with h1|⟨g,sp,a1,a2,a3⟩
       ·exact Or.inl h1
       ·exact Or.inr ⟨g,sp,a1,a2,HK3.out _ _ _ a3 (Or.inl (by decide))⟩
      exact h2.setO HPL3.out (by decide) _ _
     have hxb:∀ g o,qx=some ⟨g,o,none⟩→W5.heap.size≤g∧g<w3.heap.size:=by
      intro g o e
      rcases HOX.out with⟨e0,_⟩|⟨b,sp,e0,e1,e2⟩
      ·rw[e0] at e;cases e
      ·rw[e0] at e;cases e
       exact⟨by simpa using e1,(HK3.out _ _ _ e2 (Or.inl (by decide))).lt⟩
     refine⟨k+1,.slice r3 (l'.length+1) e3,l'++[⟨x.id,⟨x.r.start,qx,cx,x.r.fibs⟩,x.f,x.c⟩],by omega,by go_num,HPL3.out.set 2 _,?_,?_,?_,HDI.out.snoc ?_,?_,hS HQ4.out (by decide) (by decide),hS HP4.out (by decide) (by decide),(HK3.out _ _ _ ((HRZ.out.keep HF5'.out).keep HFR6.out) (Or.inl (by decide))).setOther (by omega) _,fset HF3.out (by omega) _⟩
     ·have:=owns_setO (u:=.slice r3 (l'.length+1) e3) HO3.out HPL3.out (by decide) 2
      rw[List.length_append,List.flatMap_append]
      simpa using this
     ·rw[List.map_append,HVAL.out,llv_take HX.out];rfl
     ·intro y hy
      rcases List.mem_append.1 hy with hy|hy
      ·exact hS (HIO.out y hy) (by decide) (by decide)
      ·rw[List.mem_singleton.1 hy];exact hox3
     ·intro y hy g o h o' e1 e2
      have h1:=(hxb g o e1).1
      have h2:=HBL.out y hy h o' e2
      omega
     ·intro y hy g o e
      have hsz9:(w3.setCell ⟨w1.heap.size,2,none⟩ (.slice r3 (l'.length+1) e3)).heap.size=w3.heap.size:=by simp
      rw[hsz9]
      rcases List.mem_append.1 hy with hy|hy
      ·have:=HBL.out y hy g o e
       have h3:=(HK3.out _ _ _ (HBX.out.keep HFR6.out) (Or.inr fun e=>absurd (owns_lt HOW.out e) (Nat.lt_irrefl _))).lt
       omega
      ·rw[List.mem_singleton.1 hy] at e
       exact(hxb g o e).2
    case measure=>simp[intOf];omega)
  ·have hkn:k=l.length:=by omega
   have hltz:¬ (k:Int)<(l.length:Int):=by omega
   have HKN:=Lib.hid hkn
   obtain⟨r',e',rfl,hor,he1,he2⟩:=owns_cap HOW.out
   have HE1:=Lib.hid he1
   have HOR:=Lib.hid hor
   have hrp:=HRP.out
   have y0:=hrp.cell (i:=0) rfl
   have y1:=hrp.cell (i:=1) rfl
   have y2:=hrp.cell (i:=2) rfl
   have hrz:=HRZ.out
   have x0:=hrz.cell (i:=0) rfl
   have x1:=hrz.cell (i:=1) rfl
   have x2:=hrz.cell (i:=2) rfl
   have z0:=hrz.frozen 0
   have z1:=hrz.frozen 1
   have z2:=hrz.frozen 2
   have hfin:=((hrz.set 0 (.slice q' nn c')).set 1 (.slice p' nf d')).set 2 (.slice r' l'.length e')
   have k0:=hfin.cell (i:=0) rfl
   have k1:=hfin.cell (i:=1) rfl
   have k2:=hfin.cell (i:=2) rfl
   clear hf hrp hrz hfin hor hkn he1
   go_wp2
   refine bodyPost_ret (v:=.agg #[.slice q' nn c',.slice p' nf d',.slice r' l'.length e']) (by simp[results,Tryz.results53,go_sem,k0,k1,k2]) rfl ?_
   have hS:∀ {t:TypeId} {pp:Option Addr} {cs:List Value},Own wr w.heap.size t pp cs→t≠38→Own (((wr.setCell ⟨w.heap.size+1,0,none⟩ (.slice q' nn c')).setCell ⟨w.heap.size+1,1,none⟩ (.slice p' nf d')).setCell ⟨w.heap.size+1,2,none⟩ (.slice r' l'.length e')) w.heap.size t pp cs:=fun h n =>
    ((h.setO HRZ.out n _ _).setO (HRZ.out.set 0 _) n _ _).setO ((HRZ.out.set 0 _).set 1 _) n _ _
   refine⟨_,rfl,⟨q',c',p',d',r',e',l',by rw[HNN.out,HNF.out],hS HQ4.out (by decide),hS HP4.out (by decide),hS HOR.out (by decide),fun x hx=>hS (HIO.out x hx) (by decide),HDI.out,?_,by rw[← HNN.out];exact hc1,hc2,HE1.out,he2,owns_setO (owns_setO (owns_setO HOW.out HRZ.out (by decide) 0) (HRZ.out.set 0 _) (by decide) 1) ((HRZ.out.set 0 _).set 1 _) (by decide) 2⟩,fset (fset (fset HFR.out (by omega) _) (by omega) _) (by omega) _⟩
   simp only
   rw[HV.out,HVAL.out,HKN.out,List.take_length]
theorem copyPlan_any (v:Value) (P:PlanV) (w:World) (h:PlIn w v P):Calls Tryz.prog 53 #[v] w fun e w'=>∃ v',e=.returned v'∧PlOwn w' w.heap.size v' P∧Fresh w w' :=
 (copyPlan_r v P w h).mono fun _ _ ⟨v',h1,h2,h3⟩=>⟨v',h1,h2.own,h3⟩
theorem kp6 {w w1 w2:World} {a a' b o:Nat} {v v0 v1 v2 v3 v4:Value} (h:Fresh w w1∧w1.cell? ⟨a,a',none⟩=some v∧w1.cell? ⟨b,o,none⟩=some v0∧w1.cell? ⟨b,o+1,none⟩=some v1∧w1.cell? ⟨b,o+2,none⟩=some v2∧w1.cell? ⟨b,o+3,none⟩=some v3∧w1.cell? ⟨b,o+4,none⟩=some v4) (hb:Fresh w1 w2) :
  Fresh w w2∧w2.cell? ⟨a,a',none⟩=some v∧w2.cell? ⟨b,o,none⟩=some v0∧w2.cell? ⟨b,o+1,none⟩=some v1∧w2.cell? ⟨b,o+2,none⟩=some v2∧w2.cell? ⟨b,o+3,none⟩=some v3∧w2.cell? ⟨b,o+4,none⟩=some v4 :=
 ⟨fstep h.1 hb,fkeep hb h.2.1,fkeep hb h.2.2.1,fkeep hb h.2.2.2.1,fkeep hb h.2.2.2.2.1,fkeep hb h.2.2.2.2.2.1,fkeep hb h.2.2.2.2.2.2⟩
theorem s6 {w0 w:World} {a a' b o:Nat} {v v0 v1 v2 v3 v4:Value} (hf:Fresh w0 w) (h:w.cell? ⟨a,a',none⟩=some v) (c0:w0.cell? ⟨b,o,none⟩=some v0) (c1:w0.cell? ⟨b,o+1,none⟩=some v1) (c2:w0.cell? ⟨b,o+2,none⟩=some v2) (c3:w0.cell? ⟨b,o+3,none⟩=some v3) (c4:w0.cell? ⟨b,o+4,none⟩=some v4) :
  Fresh w0 w∧w.cell? ⟨a,a',none⟩=some v∧w.cell? ⟨b,o,none⟩=some v0∧w.cell? ⟨b,o+1,none⟩=some v1∧w.cell? ⟨b,o+2,none⟩=some v2∧w.cell? ⟨b,o+3,none⟩=some v3∧w.cell? ⟨b,o+4,none⟩=some v4 :=
 ⟨hf,h,fkeep hf c0,fkeep hf c1,fkeep hf c2,fkeep hf c3,fkeep hf c4⟩
set_option maxHeartbeats 8000000 in
set_option maxRecDepth 100000 in
theorem l9Own_any (v:Value) (P:PlanV) (w:World) (h:PlIn w v P):Calls Tryz.prog 45 #[v] w fun e w'=>∃ v',e=.returned v'∧PlOwn w' w.heap.size v' P∧Fresh w w':=by
 obtain⟨N,L⟩:=P
 obtain⟨q,c,p,d,r,e0,l,rfl,hN,hL,hs,hv,_⟩:=h.parts
 simp only at hN hv ⊢
 have hn:=hs.1
 obtain⟨nn,hnn⟩:∃ k,k=N.nodes.length:=⟨_,rfl⟩
 obtain⟨nf,hnf⟩:∃ k,k=N.fibers.length:=⟨_,rfl⟩
 rw[← hnn,← hnf] at hN ⊢
 obtain⟨W2,hW2,hsz2,hf2,r1,r2⟩:=two_rows w [.slice q nn c,.slice p nf d,.slice r l.length e0] [.slice none 0 0,.slice none 0 0,.slice none 0 0] 38 38
 have HC:=Lib.hid (l2Own_any (.agg #[.slice q nn c,.slice p nf d]) N W2 (hN.keep hf2))
 unfold OutNetC at HC
 rw[← hnn,← hnf] at HC
 have HL:=Lib.hid hL
 have HSM:=Lib.hid hs
 have HV:=Lib.hid hv
 have HF2:=Lib.hid hf2
 have HR1:=Lib.hid r1
 have HR2:=Lib.hid r2
 have HW2:=Lib.hid hW2
 have HNN:=Lib.hid hnn
 have HNF:=Lib.hid hnf
 have hsz:=hf2.size
 clear h hN hL hs hv hf2 r1 r2 hW2 hnn hnf
 go_enter Tryz.func45,Tryz.ntmps45
 go_wp2_with fail
 rw[← HW2.out]
 refine(HC.out).mono ?_
 rintro e w1 ⟨q',c',p',d',rfl,hoq,hop,hc1,hc2,hb⟩
 have HOQ:=Lib.hid (hoq.mono hsz)
 have HOP:=Lib.hid (hop.mono hsz)
 have HB:=Lib.hid hb
 have hszb:=hb.size
 have a2:=(HR1.out.keep hb).cell (i:=2) rfl
 obtain⟨W4,hW4⟩:∃ W4,W4=w1.alloc (.cells #[.slice q' nn c',.slice p' nf d',.slice none 0 0] 38):=⟨_,rfl⟩
 have hf4:Fresh w1 W4:=by rw[hW4];exact fnew (frefl _) _
 have HF4:=Lib.hid (fstep HF2.out (fstep hb hf4))
 have HR4:Hid (RowAt W4 w1.heap.size 38 [.slice q' nn c',.slice p' nf d',.slice none 0 0]):=by show RowAt _ _ _ _;rw[hW4];exact RowAt.new _ _ _
 have a2':=fun o:Obj=>fkeep (fnew (frefl w1) o) a2
 have HOQ4:=Lib.hid (HOQ.out.keep hf4)
 have HOP4:=Lib.hid (HOP.out.keep hf4)
 have HRZ4:=Lib.hid ((HR2.out.keep hb).keep hf4)
 have HB14:=Lib.hid ((HR1.out.keep hb).keep hf4)
 have HW4:=Lib.hid hW4
 clear hoq hop hb hf4 hW4 HC
 go_wp2
 rw[← HW4.out]
 clear a2 a2'
 go_loopw [4] (fun i wr=>∃ (k:Nat) (V:Value) (l':List LL),k≤l.length∧i=.int .i64 k∧RowAt wr w1.heap.size 38 [.slice q' nn c',.slice p' nf d',V]∧wr.ownsRow w.heap.size 94 5 V l'.length (l'.flatMap llC)∧l'.map LL.val=(l.take k).map LL.val∧(∀ x∈l',Own wr w.heap.size 3 x.r.q (x.r.fibs.map iv))∧DistL l'∧(∀ x∈l',∀ g o,x.r.q=some ⟨g,o,none⟩→g<wr.heap.size)∧Own wr w.heap.size 9 q' (N.nodes.map Value.string)∧Own wr w.heap.size 163 p' (N.fibers.flatMap fibC)∧RowAt wr (w.heap.size+1) 38 [.slice none 0 0,.slice none 0 0,.slice none 0 0]∧RowAt wr w.heap.size 38 [.slice q nn c,.slice p nf d,.slice r l.length e0]∧Fresh w wr) (fun i _=>l.length - (intOf i).toNat)
 case atStart=>exact⟨0,.slice none 0 0,[],Nat.zero_le _,rfl,HR4.out,World.ownsRow_nil _ _ _ _,rfl,(by intro x hx;cases hx),(by intro i j x y _ hx;simp at hx),(by intro x hx;cases hx),HOQ4.out,HOP4.out,HRZ4.out,HB14.out,HF4.out⟩
 case round =>
  obtain⟨k,V,l',hk,rfl,hrp,how,hval,hio,hdi,hbl,hq4,hp4,hrz,hb1,hf⟩:=hrel
  have HRZ:=Lib.hid hrz
  have HB1:=Lib.hid hb1
  have a2:=hb1.cell (i:=2) rfl
  have HRP:=Lib.hid hrp
  have HOW:=Lib.hid how
  have HVAL:=Lib.hid hval
  have HIO:=Lib.hid hio
  have HDI:=Lib.hid hdi
  have HBL:=Lib.hid hbl
  have HQ4:=Lib.hid hq4
  have HP4:=Lib.hid hp4
  have HFR:=Lib.hid hf
  have hll:l'.length=k:=by
   have:=congrArg List.length hval
   simp at this;omega
  have HLL:=Lib.hid hll
  have hl48:l'.length≤1048576:=by omega
  clear hll
  clear hrp how hval hio hdi hbl hq4 hp4 hrz hb1
  by_cases hlt:k<l.length
  ·have hltz:(k:Int)<(l.length:Int):=by omega
   obtain⟨b,off,x,hrr,hx,hm,_,hc0,hc1',hc2',hc3,hc4⟩:=HL.out.at hlt
   subst hrr
   have hsm:=HSM.out.2 x hm
   have HX:=Lib.hid hx
   have HIX:=Lib.hid (HL.out.2 x hm)
   have HRP5:=HRP
   have HF5:=HFR
   have hgl:=HRP.out.lt
   have hszf:=hf.size
   have HSS:=s6 hf a2 hc0 hc1' hc2' hc3 hc4
   have hv5:=HRP.out.cell (i:=2) rfl
   have HC0:=Lib.hid (And.intro hc0 (And.intro hc1' (And.intro hc2' (And.intro hc3 hc4))))
   clear hx hm hf hc0 hc1' hc2' hc3 hc4
   go_wp2
   refine hd_start (n:=9) (S:=fun w'=>(Fresh w w'∧w'.cell? ⟨w.heap.size,2,none⟩=some (.slice (some ⟨b,off,none⟩) l.length e0)∧w'.cell? ⟨b,off+k * 5,none⟩=some (.int .i64 x.id)∧w'.cell? ⟨b,off+k * 5+1,none⟩=some (.int .i64 x.r.start)∧w'.cell? ⟨b,off+k * 5+2,none⟩=some (.slice x.r.q x.r.fibs.length x.r.cap)∧w'.cell? ⟨b,off+k * 5+3,none⟩=some (.int .i64 x.f)∧w'.cell? ⟨b,off+k * 5+4,none⟩=some (.int .i64 x.c))∧w'.cell? ⟨w1.heap.size,2,none⟩=some V) (by kernel_rfl) (by kernel_rfl) ⟨kp6 HSS (fdrew (frefl _)),fkeep (fdrew (frefl _)) hv5⟩ (fun hHeld=>?_)
   refine hd_tk (i:=0) (v:=?_) rfl ?_ ?_
   rotate_left
   ·(intro w hSw;(try dsimp only at hSw);go_simp;first|done|with_reducible rfl)
   refine hd_tk (i:=1) (v:=?_) rfl ?_ ?_
   rotate_left
   ·(intro w hSw;(try dsimp only at hSw);go_simp;first|done|with_reducible rfl)
   refine hd_tk (i:=2) (v:=?_) rfl ?_ ?_
   rotate_left
   ·(intro w hSw;(try dsimp only at hSw);go_simp;first|done|with_reducible rfl)
   refine hd_tk (i:=3) (v:=?_) rfl ?_ ?_
   rotate_left
   ·(intro w hSw;(try dsimp only at hSw);go_simp;first|done|with_reducible rfl)
   refine hd_tk (i:=4) (v:=?_) rfl ?_ ?_
   rotate_left
   ·(intro w hSw;(try dsimp only at hSw);go_simp;first|done|with_reducible rfl)
   refine hd_tk (i:=5) (v:=?_) rfl ?_ ?_
   rotate_left
   ·(intro w hSw;(try dsimp only at hSw);go_simp;first|done|with_reducible rfl)
   refine hd_tk (i:=6) (v:=?_) rfl ?_ ?_
   rotate_left
   ·(intro w hSw;(try dsimp only at hSw);go_simp;first|done|with_reducible rfl)
   refine hd_one (i:=7) rfl (by kernel_rfl) (by kernel_rfl) (fun K hK=>?_)
   (go_simp;go_at_call 86;refine(l9Copy_any x _ (HIX.out.keep (fstep HF5.out (fdrew (frefl _)))) hsm).mono ?_;rintro e w2 ⟨qx,cx,rfl,hox,hbw⟩;have hfr:Fresh wr w2:=fstep (fdrew (frefl _)) hbw;have hv6:=fkeep hfr hv5;go_wp2_with fail)
   refine hK.out _ _ ?_ (fun hHeld=>?_)
   ·exact⟨kp6 HSS hfr,hv6⟩
   clear hK K
   refine hd_one (i:=8) rfl (by kernel_rfl) (by kernel_rfl) (fun K hK=>?_)
   go_simp
   refine hK.out _ _ ?_ (fun hHeld=>?_)
   ·exact⟨kp6 HSS (fnew hfr _),fkeep (fnew (frefl _) _) hv6⟩
   clear hK K
   refine hd_done (by kernel_rfl) ?_
   clear hHeld
   simp only[List.drop_succ_cons,List.drop_zero]
   go_wp2_with (at_builtin;refine wpList_app_b Tryz.underlying36 infoLt rfl (by decide) (by decide) w w2 V l'.length (l'.flatMap llC) [iv x.id,iv x.r.start,.slice qx x.r.fibs.length cx,iv x.f,iv x.c] _ rfl (one_lt ⟨x.id,⟨x.r.start,qx,cx,x.r.fibs⟩,x.f,x.c⟩) rfl _ _ rfl rfl (ownsRow_keep HOW.out hfr) rfl rfl hl48 (fstep HF5.out hfr) ?_;intro v3 w3 hown3 hf3 hk3;obtain⟨r3,e3,hv3,_⟩:=owns_cap hown3;subst hv3;have hpl3:=hk3 _ _ _ (HRP5.out.keep hfr) (Or.inl (by decide));have hb13:=hk3 _ _ _ (HB1.out.keep hfr) (Or.inl (by decide));have hbc3:=hb13.cell (i:=2) rfl;have z2:=hpl3.frozen 2;have y2:=hpl3.cell (i:=2) rfl)
   all_goals (
    have HO3:=Lib.hid hown3
    have HF3:=Lib.hid hf3
    have HK3:=Lib.hid hk3
    have HPL3:=Lib.hid hpl3
    have HFR6:=Lib.hid hfr
    have HOX:=Lib.hid hox
    have HB13:=Lib.hid hb13
    have hszw:wr.heap.size≤w2.heap.size:=hfr.size
    have HHB:=Lib.hid hbw
    clear hown3 hf3 hk3 hpl3 hfr hox hb13 hbc3 hv5 hv6 HSS hbw z2 y2 a2
    go_wp2
    go_roundw
    case rel =>
     have hS:∀ {t:TypeId} {pp:Option Addr} {cs:List Value},Own wr w.heap.size t pp cs→t≠94→t≠38→Own (w3.setCell ⟨w1.heap.size,2,none⟩ (.slice r3 (l'.length+1) e3)) w.heap.size t pp cs:=by
      intro t pp cs h n1 n2
      have h1:Own w2 w.heap.size t pp cs:=h.keep HFR6.out
      have h2:Own w3 w.heap.size t pp cs:=by
       rcases h1 with h1|⟨g,sp,a1,a2,a3⟩
       ·exact Or.inl h1
       ·exact Or.inr ⟨g,sp,a1,a2,HK3.out _ _ _ a3 (Or.inl n1)⟩
      exact h2.setO HPL3.out n2 _ _
     have hox3:Own (w3.setCell ⟨w1.heap.size,2,none⟩ (.slice r3 (l'.length+1) e3)) w.heap.size 3 qx (x.r.fibs.map iv):=by
      have h1:Own w2 w.heap.size 3 qx (x.r.fibs.map iv):=HOX.out.mono (by simpa using (by omega:w.heap.size≤wr.heap.size))
      have h2:Own w3 w.heap.size 3 qx (x.r.fibs.map iv):=by
       rcases h1 with h1|⟨g,sp,a1,a2,a3⟩
       ·exact Or.inl h1
       ·exact Or.inr ⟨g,sp,a1,a2,HK3.out _ _ _ a3 (Or.inl (by decide))⟩
      exact h2.setO HPL3.out (by decide) _ _
     have hxb:∀ g o,qx=some ⟨g,o,none⟩→wr.heap.size≤g∧g<w3.heap.size:=by
      intro g o e
      rcases HOX.out with⟨e0,_⟩|⟨b,sp,e0,e1,e2⟩
      ·rw[e0] at e;cases e
      ·rw[e0] at e;cases e
       exact⟨by simpa using e1,(HK3.out _ _ _ e2 (Or.inl (by decide))).lt⟩
     refine⟨k+1,.slice r3 (l'.length+1) e3,l'++[⟨x.id,⟨x.r.start,qx,cx,x.r.fibs⟩,x.f,x.c⟩],by omega,by go_num,HPL3.out.set 2 _,?_,?_,?_,HDI.out.snoc ?_,?_,hS HQ4.out (by decide) (by decide),hS HP4.out (by decide) (by decide),(HK3.out _ _ _ (HRZ.out.keep HFR6.out) (Or.inl (by decide))).setOther (by omega) _,HB13.out.setOther (by omega) _,fset HF3.out (by omega) _⟩
     ·have:=owns_setO (u:=.slice r3 (l'.length+1) e3) HO3.out HPL3.out (by decide) 2
      rw[List.length_append,List.flatMap_append]
      simpa using this
     ·rw[List.map_append,HVAL.out,llv_take HX.out];rfl
     ·intro y hy
      rcases List.mem_append.1 hy with hy|hy
      ·exact hS (HIO.out y hy) (by decide) (by decide)
      ·rw[List.mem_singleton.1 hy];exact hox3
     ·intro y hy g o h o' e1 e2
      have h1:=(hxb g o e1).1
      have h2:=HBL.out y hy h o' e2
      omega
     ·intro y hy g o e
      have hsz9:(w3.setCell ⟨w1.heap.size,2,none⟩ (.slice r3 (l'.length+1) e3)).heap.size=w3.heap.size:=by simp
      rw[hsz9]
      rcases List.mem_append.1 hy with hy|hy
      ·rcases hS (HIO.out y hy) (by decide) (by decide) with⟨e0,_⟩|⟨b9,sp,e0,_,e2⟩
       ·rw[e0] at e;cases e
       ·rw[e0] at e;cases e
        have:=e2.lt
        rw[hsz9] at this;exact this
      ·rw[List.mem_singleton.1 hy] at e
       exact(hxb g o e).2
    case measure=>simp[intOf];omega)
  ·have hkn:k=l.length:=by omega
   have hltz:¬ (k:Int)<(l.length:Int):=by omega
   have HKN:=Lib.hid hkn
   obtain⟨r',e',rfl,hor,he1,he2⟩:=owns_cap HOW.out
   have HE1:=Lib.hid he1
   have HOR:=Lib.hid hor
   have hrp:=HRP.out
   have y0:=hrp.cell (i:=0) rfl
   have y1:=hrp.cell (i:=1) rfl
   have y2:=hrp.cell (i:=2) rfl
   have hrz:=HRZ.out
   have x0:=hrz.cell (i:=0) rfl
   have x1:=hrz.cell (i:=1) rfl
   have x2:=hrz.cell (i:=2) rfl
   have z0:=hrz.frozen 0
   have z1:=hrz.frozen 1
   have z2:=hrz.frozen 2
   have hfin:=((hrz.set 0 (.slice q' nn c')).set 1 (.slice p' nf d')).set 2 (.slice r' l'.length e')
   have k0:=hfin.cell (i:=0) rfl
   have k1:=hfin.cell (i:=1) rfl
   have k2:=hfin.cell (i:=2) rfl
   clear hf hrp hrz hfin hor hkn he1
   go_wp2
   refine bodyPost_ret (v:=.agg #[.slice q' nn c',.slice p' nf d',.slice r' l'.length e']) (by simp[results,Tryz.results45,go_sem,k0,k1,k2]) rfl ?_
   have hS:∀ {t:TypeId} {pp:Option Addr} {cs:List Value},Own wr w.heap.size t pp cs→t≠38→Own (((wr.setCell ⟨w.heap.size+1,0,none⟩ (.slice q' nn c')).setCell ⟨w.heap.size+1,1,none⟩ (.slice p' nf d')).setCell ⟨w.heap.size+1,2,none⟩ (.slice r' l'.length e')) w.heap.size t pp cs:=fun h n =>
    ((h.setO HRZ.out n _ _).setO (HRZ.out.set 0 _) n _ _).setO ((HRZ.out.set 0 _).set 1 _) n _ _
   refine⟨_,rfl,⟨q',c',p',d',r',e',l',by rw[HNN.out,HNF.out],hS HQ4.out (by decide),hS HP4.out (by decide),hS HOR.out (by decide),fun x hx=>hS (HIO.out x hx) (by decide),HDI.out,?_,by rw[← HNN.out];exact hc1,hc2,HE1.out,he2⟩,fset (fset (fset HFR.out (by omega) _) (by omega) _) (by omega) _⟩
   simp only
   rw[HV.out,HVAL.out,HKN.out,List.take_length]
end Go.Proofs.YteckjlkhopkogaaGreat
