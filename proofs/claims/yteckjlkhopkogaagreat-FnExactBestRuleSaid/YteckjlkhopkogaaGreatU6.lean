/- Texts of mine laid together (FbP, Fb, Fb2, Ln, Rm, Pu): contracts of functions and plain laws. -/
import Derived.Test.YteckjlkhopkogaaGreatU3
import Derived.StillTailTactics
import Derived.Test.YteckjlkhopkogaaGreatU4
import Derived.Test.YteckjlkhopkogaaGreatU5
import Derived.Test.YteckjlkhopkogaaGreatU1
namespace Go.Proofs.YteckjlkhopkogaaGreat
open Go.RowKit
open Go.PlainAid
def findL (L:List LtV) (id:Int):Int:=idxP L fun x=>x.1 == id
theorem idxP_map {α β:Type} (l:List α) (f:α→β) (g:β→Bool):idxP (l.map f) g=idxP l fun x=>g (f x):=by
 unfold idxP;rw[List.findIdx?_map];rfl
set_option maxHeartbeats 1000000 in
theorem lightClo_any (x:LL) (id:Int) (h:Nat) (w:World) (hc:w.cell? ⟨h,0,none⟩=some (.int .i64 id)) :
  Calls Tryz.prog 94 #[llV x,.pointer (some ⟨h,0,none⟩)] w fun e w'=>e=.returned (.bool (x.id == id))∧Fresh w w':=by
 have hf:Fresh w (w.alloc (.cells #[iv x.id,iv x.r.start,.slice x.r.q x.r.fibs.length x.r.cap,iv x.f,iv x.c] 94)):=fnew (frefl _) _
 have hc1:=fkeep hf hc
 obtain⟨bb,hbb⟩:∃ bb,bb=(x.id == id):=⟨_,rfl⟩
 have hbb':=hbb.symm
 have HF:=Lib.hid hf
 have HB:=Lib.hid hbb
 clear hf hc hbb
 go_enter Tryz.func94,Tryz.ntmps94
 go_wp2
 go_ret
 exact⟨by rw[← HB.out];rfl,HF.out⟩
set_option maxHeartbeats 1000000 in
set_option maxRecDepth 100000 in
theorem lightAt_any (v:Value) (P:PlanV) (id:Int) (w:World) (h:PlIn w v P):Calls Tryz.prog 52 #[v,.int .i64 id] w fun e w'=>e=.returned (.int .i64 (findL P.lights id))∧Fresh w w':=by
 obtain⟨N,L⟩:=P
 obtain⟨q,m,c,p,k0,d,r,e0,l,rfl,hN,hL,hs,hv,he1,he2⟩:=h
 simp only at hv ⊢
 have hmf:∀ (fn:Fn) (first cap:Array Value) (w:World),(Instr.makeFunc fn first cap).run Tryz.prog w=.ok (.func fn first cap) w:=fun _ _ _ _=>rfl
 have hn:=hs.1
 obtain⟨W2,hW2,hsz2,hf2,r1,r2⟩:=two_rows w [.slice q m c,.slice p k0 d,.slice r l.length e0] [.int .i64 id] 38 3
 have hc:=r2.cell (i:=0) rfl
 have HF:=Lib.hid hf2
 have HW2:=Lib.hid hW2
 have hci:=ltIndex_any 94 r e0 l (fun x=>x.id == id) #[.pointer (some ⟨w.heap.size+1,0,none⟩)] W2 (hL.keep hf2) hn (fun _ _=>rfl) (fun x _ w' hf'=>lightClo_any x id _ w' (fkeep hf' hc))
 have HE:Hid (findL L id=idxP l fun x=>x.id == id):=by show findL L id=_;rw[hv];exact idxP_map l LL.val _
 rw[← HE.out] at hci
 have HC:=Lib.hid hci
 clear hN hL hs hv hn hW2 hsz2 hf2 r1 r2 hc hci
 go_enter Tryz.func52,Tryz.ntmps52
 go_wp2_with fail
 rw[← HW2.out]
 refine HC.out.mono ?_
 rintro e w1 ⟨rfl,hb⟩
 have HB:=Lib.hid (fstep HF.out hb)
 clear hb
 go_wp2
 go_ret
 exact⟨rfl,HB.out⟩
end Go.Proofs.YteckjlkhopkogaaGreat
