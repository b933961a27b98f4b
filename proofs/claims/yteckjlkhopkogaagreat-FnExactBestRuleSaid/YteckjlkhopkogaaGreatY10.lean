/- Texts of mine laid together (Ins, Ins2, Ins3, Wl, Pt). -/
import Derived.Test.YteckjlkhopkogaaGreatM6
import Derived.Shelf.Spec.SlicesInsert
import Derived.Lib.AppendZerosOnto
import Derived.Laws.NewBlocks
import Derived.Laws.IdiomCopy
import Derived.Test.YteckjlkhopkogaaGreatM5
import Derived.Deep.DeepCutAuto
import Derived.Test.YteckjlkhopkogaaGreatY3
namespace Go.Proofs.YteckjlkhopkogaaGreat
open Go.RowKit Go.PlainAid Go.Lib Go.Shelf
theorem run_copy_k (w:World) (dT sT ty elem:TypeId) (size b o dLen dCap:Nat) (a:Addr) (sLen sCap:Nat) (cs:List Value)
  (hu:Tryz.prog.underlying dT=some (.slice elem)) (hs:(Tryz.prog.info? elem).map (·.size)=some size) (m:Nat) (hm:m=Nat.min sLen dLen) (hn:cs.length=m * size)
  (hsrc:∀ j v,cs[j]?=some v→w.cell? (a.add j)=some v) (hc:∀ j,j<cs.length→(w.cell? ⟨b,o+j,none⟩).isSome=true) (hf:∀ j,j<cs.length→w.frozen? ⟨b,o+j,none⟩=false) (h1:∀ v∈cs,v.oneCell'=true) :
  (Builtin.copy_ #[dT,sT] ty #[.slice (some ⟨b,o,none⟩) dLen dCap,.slice (some a) sLen sCap]).run Tryz.prog w=.ok (goInt m) (w.setCells b o cs):=by
 have hl:=run_firstCells_some (P:=Tryz.prog) w size m a sLen sCap cs hn hsrc
 have hst:=run_storeCells_cells (P:=Tryz.prog) b o cs 0 w (by simpa using hc) (by simpa using hf) h1
 simp only[Nat.add_zero] at hst
 cases hq:Tryz.prog.info? elem with
 | none=>simp[hq] at hs
 | some i =>
  have hi:i.size=size:=by simpa [hq] using hs
  simp[Builtin.copy_,run_underlying hu,Builtin.lenOf,sizeOf,typeInfo,hq,hi,← hm,hl,hst]
theorem ins_row {l:List LL} {x:LL} {k:Nat} {cs:List Value} (hk:k≤l.length) (hcs:(l.length+1) * 5≤cs.length) (hlo:∀ t,t<k * 5→cs[t]?=((l.take k).flatMap llC)[t]?) :
  ∃ sp',spl (spl cs ((k+1) * 5) ((l.drop k).flatMap llC)) (k * 5) (llC x)=(l.take k++x :: l.drop k).flatMap llC++sp'∧sp'.length=cs.length - (l.length+1) * 5:=by
 have ht5:((l.take k).flatMap llC).length=k * 5:=by rw[flat_len llC 5 (fun _=>rfl)];simp;omega
 have hd5:((l.drop k).flatMap llC).length=(l.length - k) * 5:=by rw[flat_len llC 5 (fun _=>rfl)];simp
 have hx5:(llC x).length=5:=rfl
 have hall:((l.take k++x :: l.drop k).flatMap llC).length=(l.length+1) * 5:=by rw[flat_len llC 5 (fun _=>rfl)];simp;omega
 have e0:(l.take k++x :: l.drop k).flatMap llC=(l.take k).flatMap llC++(llC x++(l.drop k).flatMap llC):=by rw[List.flatMap_append,List.flatMap_cons]
 refine⟨(spl (spl cs ((k+1) * 5) ((l.drop k).flatMap llC)) (k * 5) (llC x)).drop ((l.length+1) * 5),?_,by simp[spl_len]⟩
 apply List.ext_getElem?
 intro t
 rcases Nat.lt_or_ge t ((l.length+1) * 5) with h|h
 ·rw[List.getElem?_append_left (by omega),e0]
  rw[show((l.take k).flatMap llC++(llC x++(l.drop k).flatMap llC))[t]?=((l.take k).flatMap llC++(llC x++((l.drop k).flatMap llC++[])))[t]? by simp]
  rw[get3 ht5 hx5]
  rcases Nat.lt_or_ge t (k * 5) with h1|h1
  ·rw[if_pos h1,spl_out _ _ _ _ (Or.inl h1),spl_out _ _ _ _ (Or.inl (by omega))]
   exact hlo t h1
  ·rcases Nat.lt_or_ge t (k * 5+5) with h2|h2
   ·rw[if_neg (by omega),if_pos h2]
    have:=spl_in (llC x) (k * 5) (spl cs ((k+1) * 5) ((l.drop k).flatMap llC)) (t - k * 5) (by omega) (by rw[spl_len];omega)
    rw[show k * 5+(t - k * 5)=t by omega] at this
    exact this
   ·rw[if_neg (by omega),if_neg (by omega),spl_out _ _ _ _ (Or.inr (by omega)),List.append_nil]
    have:=spl_in ((l.drop k).flatMap llC) ((k+1) * 5) cs (t - (k+1) * 5) (by omega) (by omega)
    rw[show(k+1) * 5+(t - (k+1) * 5)=t by omega] at this
    rw[this]
    congr 1
    omega
 ·rw[List.getElem?_append_right (by omega),hall,List.getElem?_drop]
  congr 1;omega
theorem spl_swap {cs us vs:List Value} {a b:Nat} (hab:a+us.length≤b) (hb:b+vs.length≤cs.length):spl (spl cs a us) b vs=spl (spl cs b vs) a us:=by
 apply List.ext_getElem?
 intro t
 rcases Nat.lt_or_ge t a with h|h
 ·rw[spl_out _ _ _ _ (Or.inl (by omega)),spl_out _ _ _ _ (Or.inl h),spl_out _ _ _ _ (Or.inl h),spl_out _ _ _ _ (Or.inl (by omega))]
 ·rcases Nat.lt_or_ge t (a+us.length) with h1|h1
  ·have e1:=spl_in us a cs (t - a) (by omega) (by omega)
   have e2:=spl_in us a (spl cs b vs) (t - a) (by omega) (by rw[spl_len];omega)
   rw[show a+(t - a)=t by omega] at e1 e2
   rw[spl_out _ _ _ _ (Or.inl (by omega)),e1,e2]
  ·rcases Nat.lt_or_ge t b with h2|h2
   ·rw[spl_out _ _ _ _ (Or.inl h2),spl_out _ _ _ _ (Or.inr h1),spl_out _ _ _ _ (Or.inr h1),spl_out _ _ _ _ (Or.inl h2)]
   ·rcases Nat.lt_or_ge t (b+vs.length) with h3|h3
    ·have e1:=spl_in vs b cs (t - b) (by omega) (by omega)
     have e2:=spl_in vs b (spl cs a us) (t - b) (by omega) (by rw[spl_len];omega)
     rw[show b+(t - b)=t by omega] at e1 e2
     rw[e2,spl_out _ _ _ _ (Or.inr h1),e1]
    ·rw[spl_out _ _ _ _ (Or.inr h3),spl_out _ _ _ _ (Or.inr h1),spl_out _ _ _ _ (Or.inr h1),spl_out _ _ _ _ (Or.inr h3)]
def InsOut (w0 w:World) (l:List LL) (k:Nat) (x:LL) (e:Ending) (w':World):Prop:=∃ q' c',e=.returned (.slice q' (l.length+1) c')∧w'.ownsRow w0.heap.size 94 5 (.slice q' (l.length+1) c') (l.length+1) ((l.take k++x :: l.drop k).flatMap llC)∧Fresh w0 w'∧∀ g t cs,RowAt w g t cs→t≠94→RowAt w' g t cs
theorem shape_row {w:World} {g:Nat} {t:TypeId} {cs:List Value} (h:RowAt w g t cs):w.shape? g=some (t,cs.length):=by
 unfold RowAt at h
 simp[World.shape?,h]
set_option maxHeartbeats 4000000 in
set_option maxRecDepth 100000 in
theorem sliceInsert_end (w0 w:World) (hf:Fresh w0 w) (q:Option Addr) (cap:Nat) (l:List LL) (x:LL) (vb:Nat) (hown:w.ownsRow w0.heap.size 94 5 (.slice q l.length cap) l.length (l.flatMap llC)) (hvb:RowAt w vb 94 (llC x)) (hn:l.length≤1024) :
  Calls Tryz.prog 174 #[.slice q l.length cap,.int .i64 (l.length:Int),.slice (some ⟨vb,0,none⟩) 1 1] w (InsOut w0 w l l.length x):=by
 have HO:=Lib.hid hown
 have HV:=Lib.hid hvb
 have HF:=Lib.hid hf
 obtain⟨p',c',hqc,hol,hcl1,hcl2⟩:=owns_cap hown
 cases hqc
 clear hown hvb hf hol
 have b1:(l.length:Int)≤(l.length:Int):=by omega
 have HX:Hid ((llC x).length=1 * 5):=rfl
 go_enter Tryz.func174,Tryz.ntmps174
 cases q with
 | none =>
  go_wp2_with (at_builtin;refine wpList_app_many Tryz.underlying36 infoLt rfl (by decide) (by decide) w0 w _ l.length (l.flatMap llC) (some ⟨vb,0,none⟩) 1 1 (llC x) HX.out (one_lt x) rfl _ _ rfl rfl HO.out rfl HV.out.cells (by omega) (by decide) HF.out ?_;intro v' w' hown3 hf3 hk3)
  obtain⟨q',c2,rfl,_,_,_⟩:=owns_cap hown3
  have HO3:=Lib.hid hown3
  have HF3:=Lib.hid hf3
  have HK3:=Lib.hid hk3
  clear hown3 hf3 hk3
  go_wp2
  go_ret
  refine⟨q',c2,by first|rfl|done,?_,HF3.out,HK3.out⟩
  rw[List.take_length,List.drop_length,List.flatMap_append,List.flatMap_cons,List.flatMap_nil,List.append_nil]
  exact HO3.out
 | some a =>
  obtain⟨ab,ao,asp⟩:=a
  go_wp2_with (at_builtin;refine wpList_app_many Tryz.underlying36 infoLt rfl (by decide) (by decide) w0 w _ l.length (l.flatMap llC) (some ⟨vb,0,none⟩) 1 1 (llC x) HX.out (one_lt x) rfl _ _ rfl rfl HO.out rfl HV.out.cells (by omega) (by decide) HF.out ?_;intro v' w' hown3 hf3 hk3)
  all_goals (
   obtain⟨q',c2,rfl,_,_,_⟩:=owns_cap hown3
   have HO3:=Lib.hid hown3
   have HF3:=Lib.hid hf3
   have HK3:=Lib.hid hk3
   clear hown3 hf3 hk3
   go_wp2
   go_ret
   refine⟨q',c2,by first|rfl|done,?_,HF3.out,HK3.out⟩
   rw[List.take_length,List.drop_length,List.flatMap_append,List.flatMap_cons,List.flatMap_nil,List.append_nil]
   exact HO3.out)
theorem row_ownsL {w:World} {base size n g cap:Nat} {E:TypeId} {xs sp:List Value} (hb:base≤g) (hr:RowAt w g E (xs++sp)) (hn:n≤cap) (hc:cap≤maxLen) (hl:(xs++sp).length=cap * size) (hx:xs.length=n * size):w.ownsRow base E size (.slice (some ⟨g,0,none⟩) n cap) n xs :=
 ⟨hx,Or.inr ⟨g,cap,(xs++sp).toArray,rfl,hb,hr,hn,hc,by simpa using hl,by simp[← hx]⟩⟩
theorem owns_rowL {w:World} {base size n cap:Nat} {E:TypeId} {p:Option Addr} {xs:List Value} (h:w.ownsRow base E size (.slice p n cap) n xs) (hn:0<n):∃ g sp,p=some ⟨g,0,none⟩∧base≤g∧RowAt w g E (xs++sp)∧n≤cap∧cap≤maxLen∧(xs++sp).length=cap * size:=by
 obtain⟨h1,⟨_,h2⟩|⟨g,c2,cur,hv,hb,hh,h3,h4,h5,h6⟩⟩:=h
 ·omega
 ·cases hv
  have e:cur.toList=xs++cur.toList.drop (n * size):=by rw[← h6,List.take_append_drop]
  refine⟨g,cur.toList.drop (n * size),rfl,hb,?_,h3,h4,?_⟩
  ·unfold RowAt;rw[hh,← e]
  ·rw[← e];simpa using h5
theorem sizeLt:∀ w,(Go.sizeOf 94).run Tryz.prog w=.ok 5 w:=by
 obtain⟨i0,hi,hz0,hz1,hz2⟩:=info_parts infoLt
 intro w
 simp[sizeOf,typeInfo,hi,hz1]
theorem sizeLt2:(Tryz.prog.info? 94).map (·.size)=some 5:=by
 obtain⟨i0,hi,hz0,hz1,hz2⟩:=info_parts infoLt
 rw[hi];simp[hz1]
set_option maxHeartbeats 8000000 in
set_option maxRecDepth 100000 in
theorem sliceInsert_room (w0 w:World) (hf:Fresh w0 w) (g cap k:Nat) (l:List LL) (sp:List Value) (x:LL) (vb:Nat) (hg:w0.heap.size≤g) (hr:RowAt w g 94 (l.flatMap llC++sp)) (hlen:(l.flatMap llC++sp).length=cap * 5) (hvb:RowAt w vb 94 (llC x)) (hne:vb≠g) (hn:l.length≤1024) (hk:k<l.length) (hroom:l.length+1≤cap) (hcm:cap≤maxLen) :
  Calls Tryz.prog 174 #[.slice (some ⟨g,0,none⟩) l.length cap,.int .i64 (k:Int),.slice (some ⟨vb,0,none⟩) 1 1] w (InsOut w0 w l k x):=by
 have hcm':cap≤9223372036854775807:=hcm
 have hl5:(l.flatMap llC).length=l.length * 5:=flat_len llC 5 (fun _=>rfl) l
 have hd5:((l.drop k).flatMap llC).length=(l.length - k) * 5:=by rw[flat_len llC 5 (fun _=>rfl)];simp
 have hov:∀ lb cb,(callFunc 200 #[.slice (some ⟨vb,0,none⟩) 1 1,.slice (some ⟨g,(k+1) * 5,none⟩) lb cb]).run Tryz.prog w=.ok (.value (.bool false)) w:=fun lb cb=>by
  rw[run_callFunc_extern Tryz.func200 (by kernel_rfl) (by kernel_rfl) (by kernel_rfl) (e:=Extern.SlicesOverlaps.overlaps #[36,36] #[4]) (by kernel_rfl),
   Lib.run_overlaps_apart w 36 4 94 Tryz.underlying36 5 sizeLt ⟨vb,0,none⟩ ⟨g,(k+1) * 5,none⟩ 1 1 lb cb hne _ _ _ _ (shape_row hvb) (shape_row hr) (by rw[hlen];omega) (hvb.frozen _) (hvb.frozen _)]
  rfl
 have hcp1:∀ ty dl dc sl sc,dl=l.length - k→l.length - k≤sl→(Builtin.copy_ #[36,36] ty #[.slice (some ⟨g,(k+1) * 5,none⟩) dl dc,.slice (some ⟨g,k * 5,none⟩) sl sc]).run Tryz.prog w.drew=.ok (goInt ((l.length - k:Nat):Int)) (w.drew.setCells g ((k+1) * 5) ((l.drop k).flatMap llC)):=fun ty dl dc sl sc h1 h2=>by
  have hrd:=hr.keep (fdrew (frefl w))
  refine run_copy_k w.drew _ _ ty 94 5 g ((k+1) * 5) dl dc ⟨g,k * 5,none⟩ sl sc _ Tryz.underlying36 sizeLt2 (l.length - k) (by simp only[Nat.min_def];split <;> omega) hd5 (fun j v hj=>?_) (fun j hj=>?_) (fun j hj=>hrd.frozen _) (fun v hv=>ones_ll _ v hv)
  ·have hlt:j<((l.drop k).flatMap llC).length:=by
    rcases Nat.lt_or_ge j ((l.drop k).flatMap llC).length with h' | h'
    ·exact h'
    ·rw[List.getElem?_eq_none h'] at hj;cases hj
   have e:l.flatMap llC=(l.take k).flatMap llC++(l.drop k).flatMap llC:=by rw[← List.flatMap_append,List.take_append_drop]
   have ht5:((l.take k).flatMap llC).length=k * 5:=by rw[flat_len llC 5 (fun _=>rfl)];simp;omega
   rw[Addr.add_lit]
   refine hrd.cell ?_
   rw[List.getElem?_append_left (by omega),e,List.getElem?_append_right (by omega),ht5,show k * 5+j - k * 5=j by omega];exact hj
  ·have hlt:(k+1) * 5+j<(l.flatMap llC++sp).length:=by rw[hlen];omega
   rw[hrd.cell (List.getElem?_eq_getElem hlt)];rfl
 obtain⟨W1,hW1⟩:∃ W1,W1=w.drew.setCells g ((k+1) * 5) ((l.drop k).flatMap llC):=⟨_,rfl⟩
 have hr1:RowAt W1 g 94 (spl (l.flatMap llC++sp) ((k+1) * 5) ((l.drop k).flatMap llC)):=by rw[hW1];exact row_setCells g _ _ _ _ _ (hr.keep (fdrew (frefl _)))
 have hv1:RowAt W1 vb 94 (llC x):=by rw[hW1];exact row_setCells_ne g _ _ _ (hvb.keep (fdrew (frefl _))) hne
 have hcp2:∀ ty dl dc,1≤dl→(Builtin.copy_ #[36,36] ty #[.slice (some ⟨g,k * 5,none⟩) dl dc,.slice (some ⟨vb,0,none⟩) 1 1]).run Tryz.prog W1=.ok (goInt 1) (W1.setCells g (k * 5) (llC x)):=fun ty dl dc h1=>by
  refine run_copy_k W1 _ _ ty 94 5 g (k * 5) dl dc ⟨vb,0,none⟩ 1 1 (llC x) Tryz.underlying36 sizeLt2 1 (by simp only[Nat.min_def];split <;> omega) rfl (fun j v hj=>?_) (fun j hj=>?_) (fun j hj=>hr1.frozen _) (one_lt x)
  ·rw[Addr.add_lit,Nat.zero_add];exact hv1.cell hj
  ·have hj5:j<5:=hj
   have hlt:k * 5+j<(spl (l.flatMap llC++sp) ((k+1) * 5) ((l.drop k).flatMap llC)).length:=by rw[spl_len,hlen];omega
   rw[hr1.cell (List.getElem?_eq_getElem hlt)];rfl
 rw[← hW1] at hcp1
 have ht5':((l.take k).flatMap llC).length=k * 5:=by rw[flat_len llC 5 (fun _=>rfl)];simp;omega
 obtain⟨sp',hins,hsl⟩:=ins_row (l:=l) (x:=x) (k:=k) (cs:=l.flatMap llC++sp) (by omega) (by rw[hlen];omega) (fun t ht=>by
  have e:l.flatMap llC=(l.take k).flatMap llC++(l.drop k).flatMap llC:=by rw[← List.flatMap_append,List.take_append_drop]
  rw[List.getElem?_append_left (by omega),e,List.getElem?_append_left (by omega)])
 have hall:((l.take k++x :: l.drop k).flatMap llC).length=(l.length+1) * 5:=by rw[flat_len llC 5 (fun _=>rfl)];simp;omega
 have HOUT:Hid (InsOut w0 w l k x (.returned (.slice (some ⟨g,0,none⟩) (l.length+1) cap)) (W1.setCells g (k * 5) (llC x))):=by
  refine⟨_,_,rfl,?_,?_,fun h t cs hh hth=>?_⟩
  ·refine row_ownsL hg (sp:=sp') ?_ hroom hcm (by rw[List.length_append,hall,hsl,hlen];omega) hall
   rw[← hins]
   exact row_setCells g _ _ _ _ _ hr1
  ·refine fresh_setCells g hg _ _ _ ?_
   rw[hW1]
   exact fresh_setCells g hg _ _ _ (fstep hf (fdrew (frefl _)))
  ·have hhg:h≠g:=fun e=>by subst e;exact hth (hh.inj hr).1
   refine row_setCells_ne g _ _ _ ?_ hhg
   rw[hW1]
   exact row_setCells_ne g _ _ _ (hh.keep (fdrew (frefl _))) hhg
 have HW1:=Lib.hid hW1
 have hz1:(k:Int)≤(l.length:Int):=by omega
 have hz2:((k:Int) == (l.length:Int))=false:=by simp;omega
 have hz2':¬ k=l.length:=by omega
 have hz3:¬ (cap:Int)<(l.length:Int)+1:=by omega
 have hw1:IntKind.i64.wrap ((l.length:Int)+1)=(l.length:Int)+1:=by rw[IntKind.wrap_i64] <;> omega
 have hw2:IntKind.i64.wrap ((k:Int)+1)=(k:Int)+1:=by rw[IntKind.wrap_i64] <;> omega
 have hb0:(0:Int)≤(k:Int)+1:=by omega
 have hb1:(l.length:Int)+1≤(cap:Int):=by omega
 have hb2:(0:Int)≤(l.length:Int)+1:=by omega
 have he1:((k:Int)+1).toNat=k+1:=by omega
 have he2:((l.length:Int)+1).toNat=l.length+1:=by omega
 have hb3:k≤l.length+1:=by omega
 have hb4:k+1≤l.length+1:=by omega
 have hb5:k≤cap:=by omega
 have hb6:k+1≤cap:=by omega
 have hb7:¬ cap=k:=by omega
 have hb8:¬ cap=k+1:=by omega
 have hb9:(k:Int)+1≤(l.length:Int)+1:=by omega
 have hb10:(k:Int)≤(l.length:Int)+1:=by omega
 have hb11:k≤l.length:=by omega
 have HCP1:=Lib.hid hcp1
 have HCP2:=Lib.hid hcp2
 have HOV:=Lib.hid hov
 clear hcp1 hcp2 hov hr1 hv1 hW1 hins hsl hall hr hvb hlen hl5 hd5 ht5' hf
 have mixed:Tryz.prog.follows .mixedOrders=true:=by kernel_rfl
 go_enter Tryz.func174,Tryz.ntmps174
 go_wp2_with (simp only[HOV.out])
 go_region_law_o (refine step_copy_runI rfl _ _ 36 36 rfl (.slice (some ⟨g,(k+1) * 5,none⟩) (l.length - k) (cap - (k+1))) (.slice (some ⟨g,k * 5,none⟩) (l.length+1 - k) (cap - k)) (by simp[Act.eval,Act.put]) (by simp[Act.eval,Act.put]) (HCP1.out _ _ _ _ _ rfl (by omega)) ?_)
 have HC2:∀ ty,(Builtin.copy_ #[36,36] ty #[.slice (some ⟨g,k * 5,none⟩) (l.length+1 - k) (cap - k),.slice (some ⟨vb,0,none⟩) 1 1]).run Tryz.prog W1=.ok (goInt 1) (W1.setCells g (k * 5) (llC x)):=fun ty=>HCP2.out ty _ _ (by omega)
 go_wp2_with (simp only[HC2])
 go_ret
 exact HOUT.out
set_option maxHeartbeats 8000000 in
set_option maxRecDepth 100000 in
theorem sliceInsert_grow (w0 w:World) (hf:Fresh w0 w) (g cap k:Nat) (l:List LL) (sp:List Value) (x:LL) (vb:Nat) (hr:RowAt w g 94 (l.flatMap llC++sp)) (hvb:RowAt w vb 94 (llC x)) (hn:l.length≤1024) (hk:k<l.length) (hnc:l.length≤cap) (hroom:cap<l.length+1) :
  Calls Tryz.prog 174 #[.slice (some ⟨g,0,none⟩) l.length cap,.int .i64 (k:Int),.slice (some ⟨vb,0,none⟩) 1 1] w (InsOut w0 w l k x):=by
 have hl5:(l.flatMap llC).length=l.length * 5:=flat_len llC 5 (fun _=>rfl) l
 have hd5:((l.drop k).flatMap llC).length=(l.length - k) * 5:=by rw[flat_len llC 5 (fun _=>rfl)];simp
 have ht5:((l.take k).flatMap llC).length=k * 5:=by rw[flat_len llC 5 (fun _=>rfl)];simp;omega
 have esplit:l.flatMap llC=(l.take k).flatMap llC++(l.drop k).flatMap llC:=by rw[← List.flatMap_append,List.take_append_drop]
 have hgw:g<w.heap.size:=hr.lt
 have hvw:vb<w.heap.size:=hvb.lt
 obtain⟨i0,hi0,hz0,hzs,hzb⟩:=info_parts infoLt
 have hrd:=hr.keep (fdrew (frefl w))
 have hold:(Builtin.firstCells i0.size k (.slice (some ⟨g,0,none⟩) k cap)).run Tryz.prog w.drew=.ok ((l.take k).flatMap llC).toArray w.drew:=by
  rw[hzs]
  refine run_firstCells_some w.drew 5 k ⟨g,0,none⟩ k cap _ ht5 fun j v hj=>?_
  rw[Addr.add_lit,Nat.zero_add]
  refine hrd.cell ?_
  have hlt:j<((l.take k).flatMap llC).length:=by
   rcases Nat.lt_or_ge j ((l.take k).flatMap llC).length with h' | h'
   ·exact h'
   ·rw[List.getElem?_eq_none h'] at hj;cases hj
  rw[List.getElem?_append_left (by omega),esplit,List.getElem?_append_left hlt];exact hj
 obtain⟨kk,hkk⟩:∃ q,q=l.length+1 - k:=⟨_,rfl⟩
 have hik:k+kk=l.length+1:=by omega
 have hrz:=fun ty=>Lib.run_append_grow_zeros (P:=Tryz.prog) w 36 3 ty 94 i0 _ .i64 .i64 Tryz.underlying36 Tryz.underlying3 hi0 hz0 (some ⟨g,0,none⟩) k cap ((l.take k).flatMap llC) hold kk (by omega) (by rw[hzs];decide) (by omega) (by omega) (by rw[hzb];omega) (by rw[hzb,hik];exact growslice_fits hroom (by omega))
 rw[hik] at hrz
 obtain⟨G,hG⟩:∃ G,G=grownCap w (l.length+1) cap 94:=⟨_,rfl⟩
 have hGn:l.length+1≤G:=by rw[hG];exact grownCap_ge w _ _ _
 have hG63:G≤maxLen:=by rw[hG];exact grownCap_le_maxLen w (l.length+1) cap 94 (by unfold maxLen;omega)
 rw[← hG] at hrz
 obtain⟨ROW,hROW⟩:∃ ROW:List Value,ROW=(((l.take k).flatMap llC).toArray++Builtin.zeroCells (Value.agg #[iv 0,iv 0,.slice none 0 0,iv 0,iv 0]).cells kk++Builtin.zeroCells (Value.agg #[iv 0,iv 0,.slice none 0 0,iv 0,iv 0]).cells (G - (l.length+1))).toList:=⟨_,rfl⟩
 have hRt:ROW.toArray=((l.take k).flatMap llC).toArray++Builtin.zeroCells (Value.agg #[iv 0,iv 0,.slice none 0 0,iv 0,iv 0]).cells kk++Builtin.zeroCells (Value.agg #[iv 0,iv 0,.slice none 0 0,iv 0,iv 0]).cells (G - (l.length+1)):=by rw[hROW]
 have hRl:ROW.length=G * 5:=by
  rw[hROW]
  simp[Builtin.zeroCells,Value.cells,ht5]
  have:=congrArg List.length (rfl:(l.take k).flatMap llC=(l.take k).flatMap llC)
  omega
 have hRlo:∀ t,t<k * 5→ROW[t]?=((l.take k).flatMap llC)[t]?:=fun t ht=>by
  rw[hROW]
  simp only[Array.toList_append,List.append_assoc]
  rw[List.getElem?_append_left (by simpa [ht5] using ht)]
 rw[← hRt] at hrz
 obtain⟨W1,hW1⟩:∃ W1,W1=w.drew.alloc (.cells ROW.toArray 94):=⟨_,rfl⟩
 rw[← hW1] at hrz
 have hN:RowAt W1 w.heap.size 94 ROW:=by rw[hW1];exact RowAt.new w.drew _ _
 have hf1:Fresh w W1:=by rw[hW1];exact fnew (fdrew (frefl _)) _
 have hr1:=hr.keep hf1
 have hv1:=hvb.keep hf1
 have hcpA:∀ W,RowAt W w.heap.size 94 ROW→RowAt W vb 94 (llC x)→∀ ty dl dc,1≤dl→(Builtin.copy_ #[36,36] ty #[.slice (some ⟨w.heap.size,k * 5,none⟩) dl dc,.slice (some ⟨vb,0,none⟩) 1 1]).run Tryz.prog W=.ok (goInt 1) (W.setCells w.heap.size (k * 5) (llC x)):=fun W hN hv1 ty dl dc h1=>by
  refine run_copy_k W _ 36 ty 94 5 w.heap.size (k * 5) dl dc ⟨vb,0,none⟩ 1 1 (llC x) Tryz.underlying36 sizeLt2 1 (by simp only[Nat.min_def];split <;> omega) rfl (fun j v hj=>?_) (fun j hj=>?_) (fun j hj=>hN.frozen _) (one_lt x)
  ·rw[Addr.add_lit,Nat.zero_add];exact hv1.cell hj
  ·have hj5:j<5:=hj
   have hlt:k * 5+j<ROW.length:=by omega
   rw[hN.cell (List.getElem?_eq_getElem hlt)];rfl
 obtain⟨W2,hW2⟩:∃ W2,W2=W1.setCells w.heap.size (k * 5) (llC x):=⟨_,rfl⟩
 have hN2:RowAt W2 w.heap.size 94 (spl ROW (k * 5) (llC x)):=by rw[hW2];exact row_setCells _ _ _ _ _ _ hN
 have hr2:RowAt W2 g 94 (l.flatMap llC++sp):=by rw[hW2];exact row_setCells_ne _ _ _ _ hr1 (by omega)
 have hcpB:∀ ty dl dc sl sc,dl=l.length - k→l.length - k≤sl→(Builtin.copy_ #[36,36] ty #[.slice (some ⟨w.heap.size,(k+1) * 5,none⟩) dl dc,.slice (some ⟨g,k * 5,none⟩) sl sc]).run Tryz.prog W2.drew=.ok (goInt ((l.length - k:Nat):Int)) (W2.drew.setCells w.heap.size ((k+1) * 5) ((l.drop k).flatMap llC)):=fun ty dl dc sl sc h1 h2=>by
  have hNd:=hN2.keep (fdrew (frefl W2))
  have hrd2:=hr2.keep (fdrew (frefl W2))
  refine run_copy_k W2.drew _ 36 ty 94 5 w.heap.size ((k+1) * 5) dl dc ⟨g,k * 5,none⟩ sl sc _ Tryz.underlying36 sizeLt2 (l.length - k) (by simp only[Nat.min_def];split <;> omega) hd5 (fun j v hj=>?_) (fun j hj=>?_) (fun j hj=>hNd.frozen _) (fun v hv=>ones_ll _ v hv)
  ·have hlt:j<((l.drop k).flatMap llC).length:=by
    rcases Nat.lt_or_ge j ((l.drop k).flatMap llC).length with h' | h'
    ·exact h'
    ·rw[List.getElem?_eq_none h'] at hj;cases hj
   rw[Addr.add_lit]
   refine hrd2.cell ?_
   rw[List.getElem?_append_left (by omega),esplit,List.getElem?_append_right (by omega),ht5,show k * 5+j - k * 5=j by omega];exact hj
  ·have hlt:(k+1) * 5+j<(spl ROW (k * 5) (llC x)).length:=by rw[spl_len];omega
   rw[hNd.cell (List.getElem?_eq_getElem hlt)];rfl
 obtain⟨sp',hins,hsl⟩:=ins_row (l:=l) (x:=x) (k:=k) (cs:=ROW) (by omega) (by omega) hRlo
 have hall:((l.take k++x :: l.drop k).flatMap llC).length=(l.length+1) * 5:=by rw[flat_len llC 5 (fun _=>rfl)];simp;omega
 have HOUT:Hid (InsOut w0 w l k x (.returned (.slice (some ⟨w.heap.size,0,none⟩) (l.length+1) G)) (W2.drew.setCells w.heap.size ((k+1) * 5) ((l.drop k).flatMap llC))):=by
  refine⟨_,_,rfl,?_,?_,fun h t cs hh hth=>?_⟩
  ·refine row_ownsL hf.size (sp:=sp') ?_ hGn hG63 (by rw[List.length_append,hall,hsl];omega) hall
   rw[← hins,← spl_swap (by show k * 5+5≤_;omega) (by omega)]
   exact row_setCells _ _ _ _ _ _ (hN2.keep (fdrew (frefl _)))
  ·refine fresh_setCells _ hf.size _ _ _ (fstep ?_ (fdrew (frefl _)))
   rw[hW2]
   exact fresh_setCells _ hf.size _ _ _ (fstep hf hf1)
  ·have hhw:h≠w.heap.size:=by have:=hh.lt;omega
   refine row_setCells_ne _ _ _ _ (RowAt.keep ?_ (fdrew (frefl _))) hhw
   rw[hW2]
   exact row_setCells_ne _ _ _ _ (hh.keep hf1) hhw
 have HRZ:=Lib.hid hrz
 have HCA:=Lib.hid (hcpA W1 hN hv1)
 have HCB:=Lib.hid hcpB
 have HW2:=Lib.hid hW2
 have hz1:(k:Int)≤(l.length:Int):=by omega
 have hz2:((k:Int) == (l.length:Int))=false:=by simp;omega
 have hz2':¬ k=l.length:=by omega
 have hz3:(cap:Int)<(l.length:Int)+1:=by omega
 have hw1:IntKind.i64.wrap ((l.length:Int)+1)=(l.length:Int)+1:=by rw[IntKind.wrap_i64] <;> omega
 have hw2:IntKind.i64.wrap ((k:Int)+1)=(k:Int)+1:=by rw[IntKind.wrap_i64] <;> omega
 have hw3:IntKind.i64.wrap ((l.length:Int)+1 - (k:Int))=(kk:Int):=by rw[IntKind.wrap_i64] <;> omega
 have hb0:(0:Int)≤(k:Int)+1:=by omega
 have he1:((k:Int)+1).toNat=k+1:=by omega
 have hb3:k≤l.length+1:=by omega
 have hb4:k+1≤l.length+1:=by omega
 have hb5:k≤cap:=by omega
 have hb7:¬ cap=k:=by omega
 have hb8:¬ G=k+1:=by omega
 have hb12:¬ G=k:=by omega
 have hb13:k≤G:=by omega
 have hb14:k+1≤G:=by omega
 have hb9:(k:Int)+1≤(l.length:Int)+1:=by omega
 have hb10:(k:Int)≤(l.length:Int)+1:=by omega
 have hb11:k≤l.length:=by omega
 have hb15:(k:Int)≤(cap:Int):=by omega
 have mixed:Tryz.prog.follows .mixedOrders=true:=by kernel_rfl
 clear hrz hcpA hcpB hN hN2 hr1 hv1 hr2 hW1 hW2 hins hsl hall hr hvb hl5 hd5 ht5 hf hf1 hrd hold hi0 hz0 hzs hzb esplit hROW hRt hRl hRlo hG hG63 hik hkk
 go_enter Tryz.func174,Tryz.ntmps174
 have HA9:∀ ty,(Builtin.copy_ #[36,36] ty #[.slice (some ⟨w.heap.size,k * 5,none⟩) (l.length+1 - k) (G - k),.slice (some ⟨vb,0,none⟩) 1 1]).run Tryz.prog W1=.ok (goInt 1) (W1.setCells w.heap.size (k * 5) (llC x)):=fun ty=>HCA.out ty _ _ (by omega)
 rw[← HW2.out] at HA9
 go_wp2_with (first|(at_builtin;refine Lib.wpList_append_run _ rfl _ _ _ _ rfl _ _ rfl rfl _ _ (HRZ.out _) ?_)|(simp only[HA9]))
 go_region_law_o (refine step_copy_runI rfl _ _ 36 36 rfl (.slice (some ⟨w.heap.size,(k+1) * 5,none⟩) (l.length - k) (G - (k+1))) (.slice (some ⟨g,k * 5,none⟩) (l.length - k) (cap - k)) (by simp[Act.eval,Act.put]) (by simp[Act.eval,Act.put]) (HCB.out _ _ _ _ _ rfl (by omega)) ?_)
 go_wp2
 go_ret
 exact HOUT.out
theorem sliceInsert_any (w0 w:World) (hf:Fresh w0 w) (q:Option Addr) (cap:Nat) (l:List LL) (k:Nat) (x:LL) (vb:Nat) (hown:w.ownsRow w0.heap.size 94 5 (.slice q l.length cap) l.length (l.flatMap llC)) (hvb:RowAt w vb 94 (llC x)) (hne:∀ o,q≠some ⟨vb,o,none⟩) (hn:l.length≤1024) (hk:k≤l.length) :
  Calls Tryz.prog 174 #[.slice q l.length cap,.int .i64 (k:Int),.slice (some ⟨vb,0,none⟩) 1 1] w (InsOut w0 w l k x):=by
 rcases Nat.eq_or_lt_of_le hk with rfl|hk
 ·exact sliceInsert_end w0 w hf q cap l x vb hown hvb hn
 ·obtain⟨g,sp,rfl,hg,hr,hnc,hcm,hlen⟩:=owns_rowL hown (by omega)
  by_cases hroom:l.length+1≤cap
  ·exact sliceInsert_room w0 w hf g cap k l sp x vb hg hr hlen hvb (fun e=>hne 0 (by rw[e])) hn hk hroom hcm
  ·exact sliceInsert_grow w0 w hf g cap k l sp x vb hr hvb hn hk hnc (by omega)
theorem owns_monoL {w:World} {base base':Nat} {E:TypeId} {size n:Nat} {v:Value} {xs:List Value} (h:w.ownsRow base E size v n xs) (hb:base'≤base):w.ownsRow base' E size v n xs:=by
 obtain⟨h1,h2|⟨b,cap,cur,hv,h3,hh,h4⟩⟩:=h
 ·exact⟨h1,Or.inl h2⟩
 ·exact⟨h1,Or.inr ⟨b,cap,cur,hv,by omega,hh,h4⟩⟩
theorem owns_setB {w:World} {base g:Nat} {E:TypeId} {size n:Nat} {v u:Value} {xs:List Value} (h:w.ownsRow base E size v n xs) (hne:∀ k,v.ownBlock=some k→k≠g) (i:Nat) (_:True:=trivial):(w.setCell ⟨g,i,none⟩ u).ownsRow base E size v n xs:=by
 obtain⟨h1,h2|⟨b,cap,cur,hv,hb,hh,h3⟩⟩:=h
 ·exact⟨h1,Or.inl h2⟩
 ·refine⟨h1,Or.inr ⟨b,cap,cur,hv,hb,?_,h3⟩⟩
  subst hv
  have hr:RowAt w b E cur.toList:=by unfold RowAt;exact hh
  have:=hr.setOther (o:=i) (hne b rfl) u
  unfold RowAt at this;exact this
set_option maxHeartbeats 8000000 in
set_option maxRecDepth 100000 in
theorem withLight_any (v u:Value) (P:PlanV) (X:LtV) (w:World) (h:PlIn w v P) (hx:LgIn w u X) (h24:P.lights.length≤1024):Calls Tryz.prog 127 #[v,u] w fun e w'=>∃ v',e=.returned v'∧PlOwn w' w.heap.size v' ⟨P.net,insF P.lights X⟩∧Fresh w w':=by
 have HP:=Lib.hid h
 obtain⟨q,c,p,d,r,e0,l,rfl,_,hL,hs,hv,_⟩:=h.parts
 have hn:=hs.1
 have hn24:l.length≤1024:=by rw[hv] at h24;simpa using h24
 clear h24
 obtain⟨⟨xi,⟨xs,xq,xcap,xl⟩,xf,xn⟩,rfl,hxI,hxn,rfl⟩:=hx
 simp only at hxI hxn ⊢
 obtain⟨nn,hnn⟩:∃ k,k=P.net.nodes.length:=⟨_,rfl⟩
 obtain⟨nf,hnf⟩:∃ k,k=P.net.fibers.length:=⟨_,rfl⟩
 rw[← hnn,← hnf] at HP ⊢
 obtain⟨W3,hW3,hsz3,hf3,r1,r2,r3⟩:=three_rows w [.slice q nn c,.slice p nf d,.slice r l.length e0] [.int .i64 xi,.int .i64 xs,.slice xq xl.length xcap,.int .i64 xf,.int .i64 xn] [.slice none 0 0,.slice none 0 0,.slice none 0 0] 38 94 38
 have HC:=Lib.hid (copyPlan_r _ P W3 (HP.out.keep hf3))
 have HF3:=Lib.hid hf3
 have HBX3:=Lib.hid r2
 have HBP3:=Lib.hid r1
 have HL3:=Lib.hid (hL.keep hf3)
 have HRZ3:=Lib.hid r3
 have HW3:=Lib.hid hW3
 have HNN:=Lib.hid hnn
 have HNF:=Lib.hid hnf
 have HV0:=Lib.hid hv
 have HXI3:=Lib.hid (hxI.keep hf3)
 have hsz:=hf3.size
 clear h hs hf3 r1 r2 r3 hW3 hnn hnf hv hxI hL
 go_enter Tryz.func127,Tryz.ntmps127
 go_wp2_with fail
 rw[← HW3.out]
 refine(HC.out).mono ?_
 rintro e w1 ⟨v1,rfl,ho,hb⟩
 obtain⟨q',c',p',d',r',e',l',rfl,o1,o2,o3,o4,o5,o6,o7,o8,o9,o10,o11⟩:=ho
 rw[← HNN.out] at o7 ⊢
 rw[← HNF.out]
 have hll:l'.length=l.length:=by
  have e1:=congrArg List.length o6
  have e2:=congrArg List.length HV0.out
  simp at e1 e2;omega
 have hn':l'.length≤1024:=by omega
 obtain⟨W4,hW4⟩:∃ W4,W4=w1.alloc (.cells #[.slice q' nn c',.slice p' nf d',.slice r' l'.length e'] 38):=⟨_,rfl⟩
 have hf4:Fresh w1 W4:=by rw[hW4];exact fnew (frefl _) _
 have hr4:RowAt W4 w1.heap.size 38 [.slice q' nn c',.slice p' nf d',.slice r' l'.length e']:=by rw[hW4];exact RowAt.new _ _ _
 have HR4:=Lib.hid hr4
 have HBX4:=Lib.hid ((HBX3.out.keep hb).keep hf4)
 have HRZ4:=Lib.hid ((HRZ3.out.keep hb).keep hf4)
 have HBP4:=Lib.hid ((HBP3.out.keep hb).keep hf4)
 have HL4:=Lib.hid ((HL3.out.keep hb).keep hf4)
 have HOW4:=Lib.hid (owns_monoL (ownsRow_keep o11 hf4) hsz)
 have HXI4:=Lib.hid ((HXI3.out.keep hb).keep hf4)
 have HF4:=Lib.hid (fstep HF3.out (fstep hb hf4))
 have HO1:=Lib.hid ((o1.mono hsz).keep hf4)
 have HO2:=Lib.hid ((o2.mono hsz).keep hf4)
 have HO3:=Lib.hid (o3.keep hf4)
 have HO4:Hid (∀ x∈l',Own W4 w.heap.size 3 x.r.q (x.r.fibs.map iv)):=fun x hx=>((o4 x hx).mono hsz).keep hf4
 have HD:=Lib.hid o5
 have HV:=Lib.hid o6
 have HO7:=Lib.hid o7
 have HOWN1:=Lib.hid o11
 have HO9:=Lib.hid (And.intro o9 o10)
 have HLL:=Lib.hid hll
 have hwz:=hb.size
 have hsz4:W4.heap.size=w1.heap.size+1:=by rw[hW4];simp
 have HSZ4:=Lib.hid hsz4
 have HW4:=Lib.hid hW4
 obtain⟨pos,hpos⟩:∃ k,k=posF (l.map LL.val) xi:=⟨_,rfl⟩
 have HPOS:=Lib.hid hpos
 have hple:pos≤l.length:=by have:=posF_le (l.map LL.val) xi;rw[← hpos] at this;simpa using this
 clear hb hf4 hW4 hr4 o1 o2 o3 o4 o5 o6 HC o7 o9 o10 o11 hll hsz4 hpos
 go_wp2
 rw[← HW4.out]
 go_loopw [6] (fun i wr=>∃ k:Nat,k≤pos∧i=.int .i64 k∧Fresh W4 wr) (fun i _=>l.length - (intOf i).toNat)
 case atStart=>exact⟨0,Nat.zero_le _,rfl,frefl _⟩
 case round =>
  obtain⟨k,hk,rfl,hf⟩:=hrel
  have HF:=Lib.hid hf
  have hp2:=(HBP4.out.keep hf).cell (i:=2) rfl
  have hz0:=(HBX4.out.keep hf).cell (i:=0) rfl
  by_cases hgo:k<pos
  ·have hlt:k<l.length:=by omega
   have hltz:(k:Int)<(l.length:Int):=by omega
   obtain⟨b,off,y,hrr,hy,hm,_,hc0,_,_,_,_⟩:=(HL4.out.keep hf).at hlt
   have hid:y.id<xi:=posF_at (l:=l.map LL.val) (y:=y.val) (by rw[← HPOS.out];exact hgo) (by rw[List.getElem?_map,hy];rfl)
   rw[hrr] at hp2
   clear hy hm hrr
   have hp2w:=fun xa:After wr=>akeep hp2 xa
   have hz0w:=fun xa:After wr=>akeep hz0 xa
   have hc0w:=fun xa:After wr=>akeep hc0 xa
   go_wp2
   refine wp_region_after (by kernel_rfl) (by kernel_rfl) ?_
   repeat (go_big_quiet_step (fail))
   refine wpQuiet_nil ?_
   rintro _ ⟨xa,rfl⟩
   have hxa:=xa.h
   go_wp2
   go_roundw
   case rel=>exact⟨k+1,by omega,by go_num,fstep HF.out hxa⟩
   case measure=>simp[intOf];omega
  ·obtain rfl:k=pos:=by omega
   rcases Nat.lt_or_ge k l.length with hlt|hlt
   focus
    have hltz:(k:Int)<(l.length:Int):=by omega
    obtain⟨b,off,y,hrr,hy,hm,_,hc0,_,_,_,_⟩:=(HL4.out.keep hf).at hlt
    have hid:¬ y.id<xi:=posF_stop (l:=l.map LL.val) (y:=y.val) (by rw[← HPOS.out,List.getElem?_map,hy];rfl)
    rw[hrr] at hp2
    clear hy hm hrr hgo hf
    have hp2w:=fun xa:After wr=>akeep hp2 xa
    have hz0w:=fun xa:After wr=>akeep hz0 xa
    have hc0w:=fun xa:After wr=>akeep hc0 xa
    go_wp2
    refine wp_region_after (by kernel_rfl) (by kernel_rfl) ?_
    repeat (go_big_quiet_step (fail))
    refine wpQuiet_nil ?_
    rintro _ ⟨xa,rfl⟩
    have hxa:=xa.h
    go_upto_region 4 with fail
    clear hc0 hid hp2 hz0 hltz hp2w hz0w hc0w
   rotate_left
   focus
    have hltz:¬ (k:Int)<(l.length:Int):=by omega
    clear hgo hf
    have hp2w:=fun xa:After wr=>akeep hp2 xa
    have hltd:decide (k<l.length)=false:=decide_eq_false (by omega)
    go_wp2
    refine wp_region_after (by kernel_rfl) (by kernel_rfl) ?_
    repeat (go_big_quiet_step (fail))
    refine wpQuiet_nil ?_
    rintro _ ⟨xa,rfl⟩
    have hxa:=xa.h
    go_upto_region 4 with fail
    clear hp2 hz0 hltz hp2w hltd hlt
   all_goals (
    obtain⟨W6,hW6⟩:∃ W,W=xa.w':=⟨_,rfl⟩
    have hf6:Fresh W4 W6:=by rw[hW6];exact fstep HF.out hxa
    rw[← hW6]
    clear hxa
    have hx6:=HBX4.out.keep hf6
    have z1:=hx6.cell (i:=1) rfl
    have z2:=hx6.cell (i:=2) rfl
    have HX6:=Lib.hid hx6
    have HCR:=Lib.hid (copyRoute_any xs xq xcap xl W6 (HXI4.out.keep hf6) hxn)
    have HF6:=Lib.hid hf6
    have hsz6:=hf6.size
    clear hx6 hf6 hW6
    go_wp2_with fail
    refine(HCR.out).mono ?_
    rintro e W7 ⟨qx,cx,rfl,hox,hb7⟩
    have hx7:=HX6.out.keep hb7
    have hF7:=fstep HF6.out hb7
    have hp7:=HR4.out.keep hF7
    have hz7:=HRZ4.out.keep hF7
    have n1:w1.heap.size≠w.heap.size+1:=by have:=HBX3.out.lt;omega
    have n2:w.heap.size+1+1≠w.heap.size+1:=by omega
    obtain⟨W8,hW8⟩:∃ W,W=(W7.setCell ⟨w.heap.size+1,1,none⟩ (.int .i64 xs)).setCell ⟨w.heap.size+1,2,none⟩ (.slice qx xl.length cx):=⟨_,rfl⟩
    have hx8:RowAt W8 (w.heap.size+1) 94 [.int .i64 xi,.int .i64 xs,.slice qx xl.length cx,.int .i64 xf,.int .i64 xn]:=by rw[hW8];exact(hx7.set 1 _).set 2 _
    have hp8:RowAt W8 w1.heap.size 38 [.slice q' nn c',.slice p' nf d',.slice r' l'.length e']:=by rw[hW8];exact(hp7.setOther n1 _).setOther n1 _
    have hz8:RowAt W8 (w.heap.size+1+1) 38 [.slice none 0 0,.slice none 0 0,.slice none 0 0]:=by rw[hW8];exact(hz7.setOther n2 _).setOther n2 _
    have hF8:Fresh w W8:=by rw[hW8];exact fset (fset (fstep HF4.out hF7) (by omega) _) (by omega) _
    have hS8:∀ {t:TypeId} {pp:Option Addr} {cs:List Value} {B:Nat},Own W7 B t pp cs→t≠94→Own W8 B t pp cs:=by
     intro t pp cs B h n
     rw[hW8]
     exact(h.setO hx7 n _ _).setO (hx7.set 1 _) n _ _
    obtain⟨W9,hW9⟩:∃ W,W=W8.alloc (.cells #[.int .i64 xi,.int .i64 xs,.slice qx xl.length cx,.int .i64 xf,.int .i64 xn] 94):=⟨_,rfl⟩
    have hf9:Fresh W8 W9:=by rw[hW9];exact fnew (frefl _) _
    have hv9:RowAt W9 W8.heap.size 94 (llC ⟨xi,⟨xs,qx,cx,xl⟩,xf,xn⟩):=by rw[hW9];exact RowAt.new _ _ _
    have hz87:W8.heap.size=W7.heap.size:=by rw[hW8];simp
    rw[hz87] at hv9
    have howE:W8.ownsRow w.heap.size 94 5 (.slice r' l'.length e') l'.length (l'.flatMap llC):=by
     have h7:=ownsRow_keep HOW4.out hF7
     have hne:∀ gg,(Value.slice r' l'.length e').ownBlock=some gg→gg≠w.heap.size+1:=fun gg hg=>by
      have h9:=owns_ge HOWN1.out hg
      have h8:=HBX3.out.lt
      omega
     rw[hW8]
     exact owns_setB (owns_setB h7 hne _) hne _
    have HIN:=Lib.hid (sliceInsert_any w W9 (fstep hF8 hf9) r' e' l' k ⟨xi,⟨xs,qx,cx,xl⟩,xf,xn⟩ W7.heap.size (ownsRow_keep howE hf9) hv9 (fun o e=>by
     have h9:=owns_lt HOWN1.out (show(Value.slice r' l'.length e').ownBlock=some W7.heap.size by rw[e];rfl)
     have h10:=hF7.size
     have h12:=HSZ4.out
     omega) hn' (by have:=HLL.out;omega))
    have m0:=hx8.cell (i:=0) rfl
    have m1:=hx8.cell (i:=1) rfl
    have m2:=hx8.cell (i:=2) rfl
    have m3:=hx8.cell (i:=3) rfl
    have m4:=hx8.cell (i:=4) rfl
    have m5:=hp8.cell (i:=2) rfl
    have y0:=hx7.cell (i:=0) rfl
    have y1:=hx7.cell (i:=1) rfl
    have y2:=hx7.cell (i:=2) rfl
    have y3:=hx7.cell (i:=3) rfl
    have y4:=hx7.cell (i:=4) rfl
    have yf1:=hx7.frozen 1
    have yf2:=hx7.frozen 2
    have y5:=hp7.cell (i:=2) rfl
    have HP9:=Lib.hid (hp8.keep hf9)
    have HZ9:=Lib.hid (hz8.keep hf9)
    have HX9:=Lib.hid (hx8.keep hf9)
    have HF9:=Lib.hid (fstep hF8 hf9)
    have hF49:=hF7
    have HQ1:=Lib.hid ((hS8 (HO1.out.keep hF7) (by decide)).keep hf9)
    have HQ2:=Lib.hid ((hS8 (HO2.out.keep hF7) (by decide)).keep hf9)
    have HQ4:Hid (∀ x∈l',Own W9 w.heap.size 3 x.r.q (x.r.fibs.map iv)):=fun x hx=>(hS8 ((HO4.out x hx).keep hF7) (by decide)).keep hf9
    have HQX:=Lib.hid ((hS8 (hox.mono (show w.heap.size≤W6.heap.size by have:=HSZ4.out;omega)) (by decide)).keep hf9)
    have HXB:Hid (∀ g o,qx=some ⟨g,o,none⟩→W6.heap.size≤g):=fun g o e=>(hox.blk g o e).1
    have HYB:Hid (∀ y∈l',∀ g o,y.r.q=some ⟨g,o,none⟩→g<W6.heap.size):=fun y hy g o e=>(((HO4.out y hy).keep HF6.out).blk g o e).2
    have HW9:=Lib.hid (And.intro hW8 hW9)
    clear hx8 hp8 hz8 hF8 hS8 hf9 hv9 howE hx7 hp7 hz7 hF7 hF49 hox hb7 z1 z2 HCR
    go_wp2_with fail
    rw[← HW9.out.1,← HW9.out.2]
    refine(HIN.out).mono ?_
    rintro e W10 ⟨q9,c9,rfl,how9,hf9,hk9⟩
    have hpa:=hk9 _ _ _ HP9.out (by decide)
    have hza:=hk9 _ _ _ HZ9.out (by decide)
    have p0:=hpa.cell (i:=0) rfl
    have p1:=hpa.cell (i:=1) rfl
    have p2:=hpa.cell (i:=2) rfl
    have pf:=hpa.frozen 2
    have hps:=hpa.set 2 (.slice q9 (l'.length+1) c9)
    have n5:w.heap.size+1+1≠w1.heap.size:=by have:=HRZ3.out.lt;omega
    have hzs:=hza.setOther (o:=2) n5 (.slice q9 (l'.length+1) c9)
    have v0:=hzs.cell (i:=0) rfl
    have v1:=hzs.cell (i:=1) rfl
    have v2:=hzs.cell (i:=2) rfl
    have u0:=hzs.frozen 0
    have u1:=hzs.frozen 1
    have u2:=hzs.frozen 2
    have hfin:=((hzs.set 0 (.slice q' nn c')).set 1 (.slice p' nf d')).set 2 (.slice q9 (l'.length+1) c9)
    have k0:=hfin.cell (i:=0) rfl
    have k1:=hfin.cell (i:=1) rfl
    have k2:=hfin.cell (i:=2) rfl
    have w0':=hza.cell (i:=0) rfl
    have w1':=hza.cell (i:=1) rfl
    have w2':=hza.cell (i:=2) rfl
    have f0':=hza.frozen 0
    have f1':=hza.frozen 1
    have f2':=hza.frozen 2
    have HPA:=Lib.hid hpa
    have HZS:=Lib.hid hzs
    have HOW9:=Lib.hid how9
    have HF10:=Lib.hid hf9
    have HK9:=Lib.hid hk9
    clear hpa hza hps hzs hfin how9 hf9 hk9 HIN m0 m1 m2 m3 m4 m5 y0 y1 y2 y3 y4 yf1 yf2 y5
    go_wp2
    refine bodyPost_ret (v:=.agg #[.slice q' nn c',.slice p' nf d',.slice q9 (l'.length+1) c9]) (by simp[results,Tryz.results127,go_sem,k0,k1,k2]) rfl ?_
    obtain⟨q6,c6,hqc,hol,hcl1,hcl2⟩:=owns_cap HOW9.out
    cases hqc
    obtain⟨L,hL⟩:∃ L:List LL,L=l'.take k++⟨xi,⟨xs,qx,cx,xl⟩,xf,xn⟩ :: l'.drop k:=⟨_,rfl⟩
    have hkl:k≤l'.length:=by have:=HLL.out;omega
    have hll:L.length=l'.length+1:=by rw[hL];simp;omega
    have hS:∀ {t:TypeId} {pp:Option Addr} {cs:List Value},Own W10 w.heap.size t pp cs→t≠38→Own ((((W10.setCell ⟨w1.heap.size,2,none⟩ (.slice q9 (l'.length+1) c9)).setCell ⟨w.heap.size+1+1,0,none⟩ (.slice q' nn c')).setCell ⟨w.heap.size+1+1,1,none⟩ (.slice p' nf d')).setCell ⟨w.heap.size+1+1,2,none⟩ (.slice q9 (l'.length+1) c9)) w.heap.size t pp cs:=by
     intro t pp cs h n
     exact(((h.setO HPA.out n _ _).setO HZS.out n _ _).setO (HZS.out.set 0 _) n _ _).setO ((HZS.out.set 0 _).set 1 _) n _ _
    have hK:∀ {t:TypeId} {pp:Option Addr} {cs:List Value},Own W9 w.heap.size t pp cs→t≠94→Own W10 w.heap.size t pp cs:=by
     intro t pp cs h n
     rcases h with h1|⟨b,sp,h1,h2,h3⟩
     ·exact Or.inl h1
     ·exact Or.inr ⟨b,sp,h1,h2,HK9.out _ _ _ h3 n⟩
    refine⟨_,rfl,⟨q',c',p',d',q9,c9,L,by rw[hll,HNN.out,HNF.out],hS (hK HQ1.out (by decide)) (by decide),hS (hK HQ2.out (by decide)) (by decide),hS (by rw[hL];exact hol) (by decide),fun y hy=>?_,?_,?_,by simp only;rw[← HNN.out];exact HO7.out,o8,by rw[hll];exact hcl1,hcl2⟩,fset (fset (fset (fset HF10.out (by omega) _) (by omega) _) (by omega) _) (by omega) _⟩
    ·rw[hL] at hy
     rcases mem_ins hy with rfl|hy
     ·exact hS (hK HQX.out (by decide)) (by decide)
     ·exact hS (hK (HQ4.out y hy) (by decide)) (by decide)
    ·rw[hL]
     refine HD.out.ins hkl fun y hy g o h' o' e1 e2=>?_
     have h1:=HXB.out g o e1
     have h2:=HYB.out y hy h' o' e2
     omega
    ·simp only
     rw[hL,HV.out]
     unfold insF
     simp only[List.map_append,List.map_cons,List.map_take,List.map_drop]
     have h9:k=posF (l'.map LL.val) xi:=by rw[HPOS.out,← HV0.out,HV.out]
     rw[← h9])
theorem kq6 {w1 w2:World} {a b:Nat} {v v0 v1 v2 v3 v4:Value} (h:w1.cell? ⟨a,2,none⟩=some v∧w1.cell? ⟨b,0,none⟩=some v0∧w1.cell? ⟨b,1,none⟩=some v1∧w1.cell? ⟨b,2,none⟩=some v2∧w1.cell? ⟨b,3,none⟩=some v3∧w1.cell? ⟨b,4,none⟩=some v4) (hb:Fresh w1 w2) :
  w2.cell? ⟨a,2,none⟩=some v∧w2.cell? ⟨b,0,none⟩=some v0∧w2.cell? ⟨b,1,none⟩=some v1∧w2.cell? ⟨b,2,none⟩=some v2∧w2.cell? ⟨b,3,none⟩=some v3∧w2.cell? ⟨b,4,none⟩=some v4 :=
 ⟨fkeep hb h.1,fkeep hb h.2.1,fkeep hb h.2.2.1,fkeep hb h.2.2.2.1,fkeep hb h.2.2.2.2.1,fkeep hb h.2.2.2.2.2⟩
set_option maxHeartbeats 8000000 in
set_option maxRecDepth 100000 in
theorem l9Put_any (v u:Value) (P:PlanV) (X:LtV) (w:World) (h:PlIn w v P) (hx:LgIn w u X) (h24:P.lights.length≤1024):Calls Tryz.prog 124 #[v,u] w fun e w'=>∃ v',e=.returned v'∧PlOwn w' w.heap.size v' ⟨P.net,insF P.lights X⟩∧Fresh w w':=by
 have HP:=Lib.hid h
 obtain⟨q,c,p,d,r,e0,l,rfl,_,_,hs,hv,_⟩:=h.parts
 have hn:=hs.1
 have hn24:l.length≤1024:=by rw[hv] at h24;simpa using h24
 clear h24
 obtain⟨⟨xi,⟨xs,xq,xcap,xl⟩,xf,xn⟩,rfl,hxI,hxn,rfl⟩:=hx
 simp only at hxI hxn ⊢
 obtain⟨nn,hnn⟩:∃ k,k=P.net.nodes.length:=⟨_,rfl⟩
 obtain⟨nf,hnf⟩:∃ k,k=P.net.fibers.length:=⟨_,rfl⟩
 rw[← hnn,← hnf] at HP ⊢
 obtain⟨W3,hW3,hsz3,hf3,r1,r2,r3⟩:=three_rows w [.slice q nn c,.slice p nf d,.slice r l.length e0] [.int .i64 xi,.int .i64 xs,.slice xq xl.length xcap,.int .i64 xf,.int .i64 xn] [.slice none 0 0,.slice none 0 0,.slice none 0 0] 38 94 38
 have HC:=Lib.hid (l9Own_any _ P W3 (HP.out.keep hf3))
 have HF3:=Lib.hid hf3
 have HBX3:=Lib.hid r2
 have HRZ3:=Lib.hid r3
 have HW3:=Lib.hid hW3
 have HNN:=Lib.hid hnn
 have HNF:=Lib.hid hnf
 have HV0:=Lib.hid hv
 have HXI3:=Lib.hid (hxI.keep hf3)
 have hsz:=hf3.size
 clear h hs hf3 r1 r2 r3 hW3 hnn hnf hv hxI
 go_enter Tryz.func124,Tryz.ntmps124
 go_wp2_with fail
 rw[← HW3.out]
 refine(HC.out).mono ?_
 rintro e w1 ⟨v1,rfl,ho,hb⟩
 obtain⟨q',c',p',d',r',e',l',rfl,o1,o2,o3,o4,o5,o6,o7,o8,o9,o10⟩:=ho
 rw[← HNN.out] at o7 ⊢
 rw[← HNF.out]
 have hll:l'.length=l.length:=by
  have e1:=congrArg List.length o6
  have e2:=congrArg List.length HV0.out
  simp at e1 e2;omega
 have hn':l'.length≤1024:=by omega
 obtain⟨W4,hW4⟩:∃ W4,W4=w1.alloc (.cells #[.slice q' nn c',.slice p' nf d',.slice r' l'.length e'] 38):=⟨_,rfl⟩
 have hf4:Fresh w1 W4:=by rw[hW4];exact fnew (frefl _) _
 have hr4:RowAt W4 w1.heap.size 38 [.slice q' nn c',.slice p' nf d',.slice r' l'.length e']:=by rw[hW4];exact RowAt.new _ _ _
 have HR4:=Lib.hid hr4
 have HBX4:=Lib.hid ((HBX3.out.keep hb).keep hf4)
 have HRZ4:=Lib.hid ((HRZ3.out.keep hb).keep hf4)
 have HXI4:=Lib.hid ((HXI3.out.keep hb).keep hf4)
 have HF4:=Lib.hid (fstep HF3.out (fstep hb hf4))
 have HO1:=Lib.hid ((o1.mono hsz).keep hf4)
 have HO2:=Lib.hid ((o2.mono hsz).keep hf4)
 have HO3:=Lib.hid (o3.keep hf4)
 have HO4:Hid (∀ x∈l',Own W4 w.heap.size 3 x.r.q (x.r.fibs.map iv)):=fun x hx=>((o4 x hx).mono hsz).keep hf4
 have HLT:Hid (Lts W4 r' l'):=⟨HO3.out.cells,fun x hx=>(HO4.out x hx).cells⟩
 have HD:=Lib.hid o5
 have HV:=Lib.hid o6
 have HO7:=Lib.hid o7
 have HO9:=Lib.hid (And.intro o9 o10)
 have HLL:=Lib.hid hll
 have hwz:=hb.size
 have hsz4:W4.heap.size=w1.heap.size+1:=by rw[hW4];simp
 have HSZ4:=Lib.hid hsz4
 have HW4:=Lib.hid hW4
 obtain⟨pos,hpos⟩:∃ k,k=posF (l'.map LL.val) xi:=⟨_,rfl⟩
 have HPOS:=Lib.hid hpos
 have hple:pos≤l'.length:=by have:=posF_le (l'.map LL.val) xi;rw[← hpos] at this;simpa using this
 clear hb hf4 hW4 hr4 o1 o2 o3 o4 o5 o6 HC o7 o9 o10 hll hsz4 hpos
 go_wp2
 rw[← HW4.out]
 go_loopw [6] (fun i wr=>∃ k:Nat,k≤pos∧i=.int .i64 k∧Fresh W4 wr) (fun i _=>l'.length - (intOf i).toNat)
 case atStart=>exact⟨0,Nat.zero_le _,rfl,frefl _⟩
 case round =>
  obtain⟨k,hk,rfl,hf⟩:=hrel
  have HF:=Lib.hid hf
  have hp2:=(HR4.out.keep hf).cell (i:=2) rfl
  have hz0:=(HBX4.out.keep hf).cell (i:=0) rfl
  by_cases hgo:k<pos
  ·have hlt:k<l'.length:=by omega
   have hltz:(k:Int)<(l'.length:Int):=by omega
   obtain⟨b,off,y,hrr,hy,hm,_,hc0,_,_,_,_⟩:=(HLT.out.keep hf).at hlt
   have hid:y.id<xi:=posF_at (l:=l'.map LL.val) (y:=y.val) (by rw[← HPOS.out];exact hgo) (by rw[List.getElem?_map,hy];rfl)
   rw[hrr] at hp2
   clear hy hm hrr
   have hp2w:=fun xa:After wr=>akeep hp2 xa
   have hz0w:=fun xa:After wr=>akeep hz0 xa
   have hc0w:=fun xa:After wr=>akeep hc0 xa
   go_wp2
   refine wp_region_after (by kernel_rfl) (by kernel_rfl) ?_
   repeat (go_big_quiet_step (fail))
   refine wpQuiet_nil ?_
   rintro _ ⟨xa,rfl⟩
   have hxa:=xa.h
   go_wp2
   go_roundw
   case rel=>exact⟨k+1,by omega,by go_num,fstep HF.out hxa⟩
   case measure=>simp[intOf];omega
  ·obtain rfl:k=pos:=by omega
   rcases Nat.lt_or_ge k l'.length with hlt|hlt
   focus
    have hltz:(k:Int)<(l'.length:Int):=by omega
    obtain⟨b,off,y,hrr,hy,hm,_,hc0,_,_,_,_⟩:=(HLT.out.keep hf).at hlt
    have hid:¬ y.id<xi:=posF_stop (l:=l'.map LL.val) (y:=y.val) (by rw[← HPOS.out,List.getElem?_map,hy];rfl)
    rw[hrr] at hp2
    clear hy hm hrr hgo hf
    have hp2w:=fun xa:After wr=>akeep hp2 xa
    have hz0w:=fun xa:After wr=>akeep hz0 xa
    have hc0w:=fun xa:After wr=>akeep hc0 xa
    go_wp2
    refine wp_region_after (by kernel_rfl) (by kernel_rfl) ?_
    repeat (go_big_quiet_step (fail))
    refine wpQuiet_nil ?_
    rintro _ ⟨xa,rfl⟩
    have hxa:=xa.h
    go_wp2
    clear hc0 hid hp2 hz0 hltz hp2w hz0w hc0w
   rotate_left
   focus
    have hltz:¬ (k:Int)<(l'.length:Int):=by omega
    clear hgo hf
    have hp2w:=fun xa:After wr=>akeep hp2 xa
    have hltd:decide (k<l'.length)=false:=decide_eq_false (by omega)
    go_wp2
    refine wp_region_after (by kernel_rfl) (by kernel_rfl) ?_
    repeat (go_big_quiet_step (fail))
    refine wpQuiet_nil ?_
    rintro _ ⟨xa,rfl⟩
    have hxa:=xa.h
    go_wp2
    clear hp2 hz0 hltz hp2w hltd hlt
   all_goals (
    obtain⟨W6,hW6⟩:∃ W,W=xa.w':=⟨_,rfl⟩
    have hf6:Fresh W4 W6:=by rw[hW6];exact fstep HF.out hxa
    rw[← hW6]
    clear hxa
    have hr6:=HR4.out.keep hf6
    have hx6:=HBX4.out.keep hf6
    have HO6:=Lib.hid (HO3.out.keep hf6)
    have HR6:=Lib.hid hr6
    have HX6:=Lib.hid hx6
    have HRZ6:=Lib.hid (HRZ4.out.keep hf6)
    have HXI6:=Lib.hid (HXI4.out.keep hf6)
    have hF6:=fstep HF4.out hf6
    have HF6:=Lib.hid hF6
    have HF46:=Lib.hid hf6
    have hsz6:=hf6.size
    have hsz4:=HSZ4.out
    have hgx:w.heap.size+1<w1.heap.size:=by have:=HBX3.out.lt;omega
    have hv6:=hr6.cell (i:=2) rfl
    have HSS:W6.cell? ⟨w1.heap.size,2,none⟩=some (.slice r' l'.length e')∧W6.cell? ⟨w.heap.size+1,0,none⟩=some (.int .i64 xi)∧W6.cell? ⟨w.heap.size+1,1,none⟩=some (.int .i64 xs)∧W6.cell? ⟨w.heap.size+1,2,none⟩=some (.slice xq xl.length xcap)∧W6.cell? ⟨w.heap.size+1,3,none⟩=some (.int .i64 xf)∧W6.cell? ⟨w.heap.size+1,4,none⟩=some (.int .i64 xn):=⟨hv6,hx6.cell (i:=0) rfl,hx6.cell (i:=1) rfl,hx6.cell (i:=2) rfl,hx6.cell (i:=3) rfl,hx6.cell (i:=4) rfl⟩
    clear hv6
    have HLR:Hid (∀ g o,r'=some ⟨g,o,none⟩→g<W6.heap.size):=fun g o e=>(HO6.out.blk g o e).2
    have HTK:Hid (((l'.take k).flatMap llC).length=k * 5):=by show _=_;rw[flat_len llC 5 (fun _=>rfl)];simp;omega
    have HDK:Hid (((l'.drop k).flatMap llC).length=(l'.length - k) * 5):=by show _=_;rw[flat_len llC 5 (fun _=>rfl)];simp
    have HPA:Hid (∀ W,Own W W3.heap.size 94 r' (l'.flatMap llC)→Cells W r' ((l'.take k).flatMap llC)):=fun W hW=>part_a k hW
    have b1:k≤e':=by have:=HO9.out.1;omega
    have b2:k≤l'.length:=hple
    have n1:k≤1048576:=by omega
    have n2:l'.length - k≤1048576:=by omega
    have n5:w.heap.size+1+1≠w1.heap.size:=by have:=HRZ3.out.lt;omega
    have n6:w.heap.size+1≠w1.heap.size:=by omega
    have n7:w.heap.size≤w1.heap.size:=by omega
    have n8:w.heap.size+1<W6.heap.size:=by omega
    have hk1:k+1≤1025:=by omega
    obtain⟨A,hA,hPB⟩:∃ A:Option Addr,(∀ W,Own W W3.heap.size 94 r' (l'.flatMap llC)→Cells W A ((l'.drop k).flatMap llC))∧((r'=none∧A=none)∨∃ g,r'=some ⟨g,0,none⟩∧A=if e'=k then (some (⟨g,0,none⟩:Addr)) else some ⟨g,k * 5,none⟩):=by
     rcases HO6.out with⟨rfl,h0⟩|⟨g,sp,rfl,_,hW⟩
     ·refine⟨none,fun W hW=>?_,Or.inl ⟨rfl,rfl⟩⟩
      left
      have h1:=congrArg List.length h0
      rw[flat_len llC 5 (fun _=>rfl)] at h1
      have h2:l'=[]:=List.eq_nil_of_length_eq_zero (by simp at h1;omega)
      rw[h2];simp
     ·exact⟨_,fun W hW=>part_b hple HO9.out.1 hW,Or.inr ⟨g,rfl,rfl⟩⟩
    have HPB:=Lib.hid hA
    clear hF6 hf6 hW6 hr6 hx6 hsz4 hA hple
    have HXS:Hid (([iv xi,iv xs,.slice xq xl.length xcap,iv xf,iv xn]:List Value).length=5):=rfl
    rcases hPB with⟨rfl,rfl⟩|⟨g,rfl,hA⟩
    rotate_left
    focus
     have hA':=hA.symm
     clear hA
    all_goals (
     refine hd_start (n:=15) (S:=fun w'=>w'.cell? ⟨w1.heap.size,2,none⟩=some (.slice _ l'.length e')∧w'.cell? ⟨w.heap.size+1,0,none⟩=some (.int .i64 xi)∧w'.cell? ⟨w.heap.size+1,1,none⟩=some (.int .i64 xs)∧w'.cell? ⟨w.heap.size+1,2,none⟩=some (.slice xq xl.length xcap)∧w'.cell? ⟨w.heap.size+1,3,none⟩=some (.int .i64 xf)∧w'.cell? ⟨w.heap.size+1,4,none⟩=some (.int .i64 xn)) (by kernel_rfl) (by kernel_rfl) (kq6 HSS (fdrew (frefl _))) (fun hHeld=>?_)
     obtain⟨c0,hc0⟩:∃ W,W=W6.drew:=⟨_,rfl⟩
     rw[← hc0] at hHeld ⊢
     have fc0:Fresh W6 c0:=by rw[hc0];exact fdrew (frefl _)
     clear hc0
     refine hd_tk (i:=1) (v:=?_) rfl ?_ ?_
     rotate_left
     ·(intro w hSw;(try dsimp only at hSw);go_simp;first|done|with_reducible rfl)
     refine hd_tk (i:=2) (v:=?_) rfl ?_ ?_
     rotate_left
     ·(intro w hSw;(try dsimp only at hSw);go_simp;first|done|with_reducible rfl)
     refine hd_tk (i:=3) (v:=?_) rfl ?_ ?_
     rotate_left
     ·(intro w hSw;(try dsimp only at hSw);go_simp;first|done|with_reducible rfl)
     refine hd_tk (i:=4) (v:=?_) rfl ?_ ?_
     rotate_left
     ·(intro w hSw;(try dsimp only at hSw);go_simp;first|done|with_reducible rfl)
     refine hd_tk (i:=6) (v:=?_) rfl ?_ ?_
     rotate_left
     ·(intro w hSw;(try dsimp only at hSw);go_simp;first|done|with_reducible rfl)
     refine hd_tk (i:=10) (v:=?_) rfl ?_ ?_
     rotate_left
     ·(intro w hSw;(try dsimp only at hSw);go_simp;first|done|with_reducible rfl)
     refine hd_tk (i:=11) (v:=?_) rfl ?_ ?_
     rotate_left
     ·(intro w hSw;(try dsimp only at hSw);go_simp;first|done|with_reducible rfl)
     refine hd_tk (i:=12) (v:=?_) rfl ?_ ?_
     rotate_left
     ·(intro w hSw;(try dsimp only at hSw);go_simp;first|done|with_reducible rfl)
     refine hd_tk (i:=13) (v:=?_) rfl ?_ ?_
     rotate_left
     ·(intro w hSw;(try dsimp only at hSw);go_simp;first|done|with_reducible rfl)
     refine hd_one (i:=0) rfl (by kernel_rfl) (by kernel_rfl) (fun K hK=>?_)
     (go_simp;obtain⟨wa,hwa⟩:∃ W,W=c0.alloc (.cells #[] 94):=⟨_,rfl⟩;rw[← hwa];have fa:Fresh W6 wa:=(by rw[hwa];exact fnew fc0 _);have ra:RowAt wa c0.heap.size 94 []:=(by rw[hwa];exact RowAt.new _ _ _);have ga:W6.heap.size≤c0.heap.size:=fc0.size;clear hwa)
     refine hK.out _ _ ?_ (fun hHeld=>?_)
     ·exact kq6 HSS fa
     clear hK K
     refine hd_one (i:=5) rfl (by kernel_rfl) (by kernel_rfl) (fun K hK=>?_)
     (refine step_app_m (some 32) rfl Tryz.underlying36 infoLt rfl (by decide) (by decide) W6 (.slice (some ⟨c0.heap.size,0,none⟩) 0 0) 0 [] _ k e' ((l'.take k).flatMap llC) rfl _ _ rfl rfl (ownsRow_zero ra ga) rfl (HPA.out _ (HO6.out.keep fa)) HTK.out (ones_ll _) (by omega) n1 fa ?_;rw[Nat.zero_add,List.nil_append];intro q1 c1 x1 own1 f1 hk1)
     refine hK.out _ _ ?_ (fun hHeld=>?_)
     ·exact kq6 HSS f1
     clear hK K
     refine hd_one (i:=7) rfl (by kernel_rfl) (by kernel_rfl) (fun K hK=>?_)
     (go_simp;go_at_call 86;refine(l9Copy_any ⟨xi,⟨xs,xq,xcap,xl⟩,xf,xn⟩ _ (HXI6.out.keep f1) hxn).mono ?_;rintro e x2 ⟨qx,cx,rfl,hox,hb3⟩;have f2:=fstep f1 hb3;go_wp2_with fail)
     refine hK.out _ _ ?_ (fun hHeld=>?_)
     ·exact kq6 HSS f2
     clear hK K
     refine hd_one (i:=8) rfl (by kernel_rfl) (by kernel_rfl) (fun K hK=>?_)
     (go_simp;obtain⟨x3,hx3⟩:∃ W,W=x2.alloc (.cells #[.int .i64 xi,.int .i64 xs,.slice qx xl.length cx,.int .i64 xf,.int .i64 xn] 94):=⟨_,rfl⟩;rw[← hx3];have f23:Fresh x2 x3:=(by rw[hx3];exact fnew (frefl _) _);have f3:Fresh W6 x3:=fstep f2 f23;have rb:RowAt x3 x2.heap.size 94 [iv xi,iv xs,.slice qx xl.length cx,iv xf,iv xn]:=(by rw[hx3];exact RowAt.new _ _ _);have own3:=ownsRow_keep own1 (fstep hb3 f23);clear hx3)
     refine hK.out _ _ ?_ (fun hHeld=>?_)
     ·exact kq6 HSS f3
     clear hK K
     refine hd_one (i:=9) rfl (by kernel_rfl) (by kernel_rfl) (fun K hK=>?_)
     (refine step_app_m (some 36) rfl Tryz.underlying36 infoLt rfl (by decide) (by decide) W6 _ k ((l'.take k).flatMap llC) (some ⟨x2.heap.size,0,none⟩) 1 1 [iv xi,iv xs,.slice qx xl.length cx,iv xf,iv xn] rfl _ _ rfl rfl own3 rfl rb.cells rfl (one_lt ⟨xi,⟨xs,qx,cx,xl⟩,xf,xn⟩) n1 (by decide) f3 ?_;intro q4 c4 x4 own4 f4 hk4)
     refine hK.out _ _ ?_ (fun hHeld=>?_)
     ·exact kq6 HSS f4
     clear hK K
     refine hd_one (i:=14) rfl (by kernel_rfl) (by kernel_rfl) (fun K hK=>?_)
     (refine step_app_m (some 41) rfl Tryz.underlying36 infoLt rfl (by decide) (by decide) W6 _ (k+1) ((l'.take k).flatMap llC++[iv xi,iv xs,.slice qx xl.length cx,iv xf,iv xn]) _ (l'.length - k) (e' - k) ((l'.drop k).flatMap llC) rfl _ _ rfl rfl own4 rfl (HPB.out _ (HO6.out.keep f4)) HDK.out (ones_ll _) (by omega) n2 f4 ?_;intro q5 c5 x5 own5 f5 hk5)
     refine hK.out _ _ ?_ (fun hHeld=>?_)
     ·exact kq6 HSS f5
     clear hK K
     refine hd_done (by kernel_rfl) ?_
     clear hHeld
     simp only[List.drop_succ_cons,List.drop_zero]
     have hpl:=HR6.out.keep f5
     have y2:=hpl.cell (i:=2) rfl
     have yf:=hpl.frozen 2
     have hps:=hpl.set 2 (.slice q5 (k+1+(l'.length - k)) c5)
     have m0:=hps.cell (i:=0) rfl
     have m1:=hps.cell (i:=1) rfl
     have m2:=hps.cell (i:=2) rfl
     have hrz:=(HRZ6.out.keep f5).setOther (o:=2) n5 (.slice q5 (k+1+(l'.length - k)) c5)
     have t0:=hrz.cell (i:=0) rfl
     have t1:=hrz.cell (i:=1) rfl
     have t2:=hrz.cell (i:=2) rfl
     have u0:=hrz.frozen 0
     have u1:=hrz.frozen 1
     have u2:=hrz.frozen 2
     have hfin:=((hrz.set 0 (.slice q' nn c')).set 1 (.slice p' nf d')).set 2 (.slice q5 (k+1+(l'.length - k)) c5)
     have k0:=hfin.cell (i:=0) rfl
     have k1:=hfin.cell (i:=1) rfl
     have k2:=hfin.cell (i:=2) rfl
     have HPLX:=Lib.hid hpl
     have HRZX:=Lib.hid hrz
     have HOWN5:=Lib.hid own5
     have HOX:=Lib.hid hox
     have HFX:=Lib.hid f5
     have HF1:=Lib.hid f1
     have HF23:=Lib.hid f23
     have HK4:=Lib.hid hk4
     have HK5:=Lib.hid hk5
     have hszx:=f5.size
     clear hpl hrz own5 hox f5 f4 f3 f2 f1 f23 hb3 hk1 hk4 hk5 own1 own3 own4 rb ra ga fa fc0 hps hfin HSS
     go_wp2
     refine bodyPost_ret (v:=.agg #[.slice q' nn c',.slice p' nf d',.slice q5 (k+1+(l'.length - k)) c5]) (by simp[results,Tryz.results124,go_sem,k0,k1,k2]) rfl ?_
     obtain⟨q6,c6,hqc,hol,hcl1,hcl2⟩:=owns_cap HOWN5.out
     cases hqc
     obtain⟨L,hL⟩:∃ L:List LL,L=l'.take k++⟨xi,⟨xs,qx,cx,xl⟩,xf,xn⟩ :: l'.drop k:=⟨_,rfl⟩
     have hkl:k≤l'.length:=b2
     have hll:L.length=k+1+(l'.length - k):=by rw[hL];simp;omega
     have hLc:L.flatMap llC=(l'.take k).flatMap llC++[iv xi,iv xs,.slice qx xl.length cx,iv xf,iv xn]++(l'.drop k).flatMap llC:=by rw[hL,List.flatMap_append,List.flatMap_cons,List.append_assoc]
     have hS:∀ {t:TypeId} {pp:Option Addr} {cs:List Value},Own x5 w.heap.size t pp cs→t≠38→Own ((((x5.setCell ⟨w1.heap.size,2,none⟩ (.slice q5 (k+1+(l'.length - k)) c5)).setCell ⟨w.heap.size+1+1,0,none⟩ (.slice q' nn c')).setCell ⟨w.heap.size+1+1,1,none⟩ (.slice p' nf d')).setCell ⟨w.heap.size+1+1,2,none⟩ (.slice q5 (k+1+(l'.length - k)) c5)) w.heap.size t pp cs:=by
      intro t pp cs h n
      exact(((h.setO HPLX.out n _ _).setO HRZX.out n _ _).setO (HRZX.out.set 0 _) n _ _).setO ((HRZX.out.set 0 _).set 1 _) n _ _
     have f45:=fstep HF46.out HFX.out
     have hz6:w.heap.size≤W6.heap.size:=by have:=HF6.out.size;omega
     have hox5:Own x5 w.heap.size 3 qx (xl.map iv):=by
      have a1:Own x2 w.heap.size 3 qx (xl.map iv):=HOX.out.mono (Nat.le_trans hz6 HF1.out.size)
      exact((a1.keep HF23.out).hk HK4.out (by decide)).hk HK5.out (by decide)
     have hxb:∀ g o,qx=some ⟨g,o,none⟩→W6.heap.size≤g:=by
      intro g o e
      have h1:=(HOX.out.blk g o e).1
      have h2:=HF1.out.size
      omega
     refine⟨_,rfl,⟨q',c',p',d',q5,c5,L,by rw[hll,HNN.out,HNF.out],hS (HO1.out.keep f45) (by decide),hS (HO2.out.keep f45) (by decide),hS (by rw[hLc];exact hol.mono hz6) (by decide),fun y hy=>?_,?_,?_,by simp only;rw[← HNN.out];exact HO7.out,o8,by rw[hll];exact hcl1,hcl2⟩,fset (fset (fset (fset (fstep HF6.out HFX.out) (by omega) _) (by omega) _) (by omega) _) (by omega) _⟩
     ·rw[hL] at hy
      rcases mem_ins hy with rfl|hy
      ·exact hS hox5 (by decide)
      ·exact hS ((HO4.out y hy).keep f45) (by decide)
     ·rw[hL]
      refine HD.out.ins hkl fun y hy g o h' o' e1 e2=>?_
      have h1:=hxb g o e1
      have h2:=(((HO4.out y hy).keep HF46.out).blk h' o' e2).2
      omega
     ·simp only
      rw[HV.out,hL]
      unfold insF
      simp only[List.map_append,List.map_cons,List.map_take,List.map_drop]
      rw[← HPOS.out]))
end Go.Proofs.YteckjlkhopkogaaGreat
