/- Marks of arguments: lights, plans. -/
import Derived.Test.YteckjlkhopkogaaGreatU3
import Derived.Test.YteckjlkhopkogaaGreatU4
namespace Go.Proofs.YteckjlkhopkogaaGreat
open Go.RowKit Go.PlainAid
abbrev ltT:TypeId→Prop:=fun t=>t = 3 ∨ t = 94
/-- Lights of the argument's own: the slices' heads stand in the row. -/
def LtsMine (w:World) (lo hi:Nat) (p:Option Addr) (l:List LL):Prop:=l = [] ∨ ∃ g cs,p = some ⟨g,0,none⟩∧lo ≤ g∧g < hi∧RowAt w g 94 cs∧l.length * 5 ≤ cs.length ∧
 ∀ i x,l[i]? = some x→cs[i * 5 + 2]? = some (.slice x.r.q x.r.fibs.length x.r.cap)∧OwnIn w lo hi 3 x.r.q x.r.fibs.length
theorem LtsMine.keep {w w':World} {lo hi:Nat} {p:Option Addr} {l:List LL} (h:LtsMine w lo hi p l) (hb:Fresh w w'):LtsMine w' lo hi p l:=by
 rcases h with h | ⟨g,cs,h1,h2,h3,h4,h5,h6⟩
 ·exact Or.inl h
 ·exact Or.inr ⟨g,cs,h1,h2,h3,h4.keep hb,h5,fun i x hx=>⟨(h6 i x hx).1,(h6 i x hx).2.keep hb⟩⟩
theorem LtsMine.mk {T:TypeId→Prop} (hT:¬ T 94) {lo' hi':Nat} {w w':World} {lo hi:Nat} {p:Option Addr} {l:List LL} (h:LtsMine w lo hi p l) (hb:Mk T lo' hi' w w'):LtsMine w' lo hi p l:=by
 rcases h with h | ⟨g,cs,h1,h2,h3,h4,h5,h6⟩
 ·exact Or.inl h
 ·exact Or.inr ⟨g,cs,h1,h2,h3,hb.row _ _ _ h4 hT,h5,fun i x hx=>⟨(h6 i x hx).1,(h6 i x hx).2.mk hb⟩⟩
theorem LtsMine.set {w:World} {lo hi g:Nat} {l:List LL} {cs:List Value} (h4:RowAt w g 94 cs) (h2:lo ≤ g) (h3:g < hi) (h5:l.length * 5 ≤ cs.length)
  (h6:∀ i x,l[i]? = some x→cs[i * 5 + 2]? = some (.slice x.r.q x.r.fibs.length x.r.cap)∧OwnIn w lo hi 3 x.r.q x.r.fibs.length) (j r:Nat) (hr:r ≠ 2) (hr5:r < 5) (v:Value) :
  RowAt (w.setCell ⟨g,j * 5 + r,none⟩ v) g 94 (cs.set (j * 5 + r) v)∧l.length * 5 ≤ (cs.set (j * 5 + r) v).length ∧
  ∀ i x,l[i]? = some x→(cs.set (j * 5 + r) v)[i * 5 + 2]? = some (.slice x.r.q x.r.fibs.length x.r.cap)∧OwnIn (w.setCell ⟨g,j * 5 + r,none⟩ v) lo hi 3 x.r.q x.r.fibs.length:=by
 refine ⟨h4.set (j * 5 + r) v,by simpa using h5,fun i x hx=>⟨?_,?_⟩⟩
 ·rw [List.getElem?_set_ne (by omega)]; exact (h6 i x hx).1
 ·have hm:Mk (fun t=>t = 94) lo hi w (w.setCell ⟨g,j * 5 + r,none⟩ v):=Mk.set (T:=fun t=>t = 94) (Mk.refl _ _ _ _) h4 rfl h2 h3 _ _
  exact (h6 i x hx).2.mk hm
set_option maxHeartbeats 4000000 in
theorem markLights_m (p:Option Addr) (cap:Nat) (l:List LL) (lo hi:Nat) (k0:Int) (w:World) (h:LtsMine w lo hi p l) (hs:LtsSmall l) (h0:0 ≤ k0) (h1:k0 ≤ 562949953421312) :
  Calls Tryz.prog 28 #[.slice p l.length cap, .int .i64 k0] w fun e w'=>∃ k1,e = .returned (.int .i64 k1)∧k0 ≤ k1∧k1 ≤ k0 + 4398046511104∧Mk ltT lo hi w w':=by
 have hn:=hs.1
 have HSM:=Lib.hid hs
 have HO:=Lib.hid h
 clear hs h
 go_enter Tryz.func28,Tryz.ntmps28
 go_wp2
 go_loopw [1,5] (fun kk i wr=>∃ (j:Nat) (k:Int),j ≤ l.length∧i = .int .i64 j∧kk = .int .i64 k∧k0 ≤ k∧k ≤ k0 + 1048580 * j∧LtsMine wr lo hi p l∧Mk ltT lo hi w wr) (fun _ i _=>l.length - (intOf i).toNat)
 case atStart=>exact ⟨0,k0,Nat.zero_le _,rfl,rfl,by omega,by omega,HO.out,Mk.refl _ _ _ _⟩
 case round =>
  obtain ⟨j,k,hj,rfl,rfl,hk0,hk1,hm,hb⟩:=hrel
  have HB:=Lib.hid hb
  clear hb
  by_cases hlt:j < l.length
  ·rcases hm with hnil | ⟨g,cs,rfl,hl,hh,hr,hcs,hin⟩
   ·rw [hnil] at hlt; simp at hlt
   ·have hx:l[j]? = some l[j]:=List.getElem?_eq_getElem hlt
    generalize hxe:l[j] = x at hx
    have hsm:x.r.fibs.length ≤ 1048576:=HSM.out.2 x (by rw [← hxe]; exact List.getElem_mem hlt)
    have hc0:wr.cell? ⟨g,j * 5,none⟩ = some cs[j * 5]:=hr.cell (List.getElem?_eq_getElem (by omega))
    have hc1:wr.cell? ⟨g,j * 5 + 1,none⟩ = some cs[j * 5 + 1]:=hr.cell (List.getElem?_eq_getElem (by omega))
    have hc2:wr.cell? ⟨g,j * 5 + 2,none⟩ = some (.slice x.r.q x.r.fibs.length x.r.cap):=hr.cell (hin j x hx).1
    have hf0:=hr.frozen (j * 5)
    have hf1:=hr.frozen (j * 5 + 1)
    obtain ⟨hr1,hcs1,hin1⟩:=LtsMine.set hr hl hh hcs hin j 0 (by omega) (by omega) (iv k)
    have hm1:=Mk.set HB.out hr (Or.inr rfl) hl hh (j * 5 + 0) (iv k)
    obtain ⟨hr2,hcs2,hin2⟩:=LtsMine.set hr1 hl hh hcs1 hin1 j 1 (by omega) (by omega) (iv (k + 1))
    have hm2:=Mk.set hm1 hr1 (Or.inr rfl) hl hh (j * 5 + 1) (iv (k + 1))
    obtain ⟨cs2,hcs2e⟩:∃ cs2,cs2 = (cs.set (j * 5 + 0) (iv k)).set (j * 5 + 1) (iv (k + 1)):=⟨_,rfl⟩
    obtain ⟨w2,hw2⟩:∃ w2,w2 = (wr.setCell ⟨g,j * 5,none⟩ (.int .i64 k)).setCell ⟨g,j * 5 + 1,none⟩ (.int .i64 (k + 1)):=⟨_,rfl⟩
    replace hr2:RowAt w2 g 94 cs2:=by rw [hw2,hcs2e]; exact hr2
    replace hcs2:l.length * 5 ≤ cs2.length:=by rw [hcs2e]; exact hcs2
    replace hin2:∀ i x,l[i]? = some x→cs2[i * 5 + 2]? = some (.slice x.r.q x.r.fibs.length x.r.cap)∧OwnIn w2 lo hi 3 x.r.q x.r.fibs.length:=by rw [hw2,hcs2e]; exact hin2
    replace hm2:Mk ltT lo hi w w2:=by rw [hw2]; exact hm2
    have ho2:=(hin2 j x hx).2
    have HW:=Lib.hid hw2
    have HK:=Lib.hid (And.intro hm2 (And.intro hr2 (And.intro hcs2 (And.intro hin2 ho2))))
    have HX:=Lib.hid hx
    clear hw2 hm1 hm2 hr1 hr2 hcs1 hcs2 hin1 hin2 ho2 hr hin hxe hx hcs2e
    go_wp2_with fail
    rw [← HW.out]
    obtain ⟨hm2,hr2,hcs2,hin2,ho2⟩:=HK.out
    refine (markIntS_m _ _ _ lo hi (k + 1 + 1) _ ho2 (by omega) (by omega) (by omega)).mono ?_
    rintro e w3 ⟨rfl,hb3⟩
    have hr3:=hb3.row _ _ _ hr2 (by decide)
    have hin3:∀ i x,l[i]? = some x→cs2[i * 5 + 2]? = some (.slice x.r.q x.r.fibs.length x.r.cap)∧OwnIn w3 lo hi 3 x.r.q x.r.fibs.length:=fun i x hx=>⟨(hin2 i x hx).1,(hin2 i x hx).2.mk hb3⟩
    have hc3:w3.cell? ⟨g,j * 5 + 3,none⟩ = some cs2[j * 5 + 3]:=hr3.cell (List.getElem?_eq_getElem (by omega))
    have hc4:w3.cell? ⟨g,j * 5 + 4,none⟩ = some cs2[j * 5 + 4]:=hr3.cell (List.getElem?_eq_getElem (by omega))
    have hf3:=hr3.frozen (j * 5 + 3)
    have hf4:=hr3.frozen (j * 5 + 4)
    have HK3:=Lib.hid (And.intro (hm2.trans (hb3.more (T':=ltT) (fun t h=>Or.inl h))) (And.intro hr3 (And.intro hcs2 hin3)))
    clear hm2 hr2 hin2 ho2 hr3 hin3 hb3 HK HB hc0 hc1 hc2 hf0 hf1
    go_wp2
    go_roundw
    case rel =>
     obtain ⟨hm3,hr3,hcs3,hin3⟩:=HK3.out
     obtain ⟨hr4,hcs4,hin4⟩:=LtsMine.set hr3 hl hh hcs3 hin3 j 3 (by omega) (by omega) (iv (k + 1 + 1 + x.r.fibs.length))
     have hm4:=Mk.set hm3 hr3 (Or.inr rfl) hl hh (j * 5 + 3) (iv (k + 1 + 1 + x.r.fibs.length))
     obtain ⟨hr5,hcs5,hin5⟩:=LtsMine.set hr4 hl hh hcs4 hin4 j 4 (by omega) (by omega) (iv (k + 1 + 1 + x.r.fibs.length + 1))
     have hm5:=Mk.set hm4 hr4 (Or.inr rfl) hl hh (j * 5 + 4) (iv (k + 1 + 1 + x.r.fibs.length + 1))
     refine ⟨j + 1,k + 1 + 1 + x.r.fibs.length + 1 + 1,by omega,by go_num,by go_num,by omega,by omega,Or.inr ⟨g,_,rfl,hl,hh,?_,hcs5,?_⟩,?_⟩
     ·exact hr5
     ·exact hin5
     ·exact hm5
    case measure=>simp [intOf]; omega
  ·have hjn:j = l.length:=by omega
   go_wp2
   go_ret
   exact ⟨k,rfl,hk0,by omega,HB.out⟩
/-- A plan of the argument's own. -/
def PlMine (w:World) (lo hi:Nat) (v:Value):Prop:=∃ q m c p k d r e l,v = .agg #[.slice q m c, .slice p k d, .slice r l.length e]∧NetMine w lo hi (.agg #[.slice q m c, .slice p k d])∧LtsMine w lo hi r l∧LtsSmall l
theorem PlMine.keep {w w':World} {lo hi:Nat} {v:Value} (h:PlMine w lo hi v) (hb:Fresh w w'):PlMine w' lo hi v:=by
 obtain ⟨q,m,c,p,k,d,r,e,l,h1,h2,h3,h4⟩:=h
 exact ⟨q,m,c,p,k,d,r,e,l,h1,h2.keep hb,h3.keep hb,h4⟩
abbrev plT:TypeId→Prop:=fun t=>netT t ∨ ltT t
set_option maxHeartbeats 2000000 in
theorem markPlan_m (v:Value) (lo hi:Nat) (k0:Int) (w:World) (h:PlMine w lo hi v) (hlo:lo ≤ w.heap.size) (hhi:hi ≤ w.heap.size) (h0:0 ≤ k0) (h1:k0 ≤ 281474976710656) :
  Calls Tryz.prog 16 #[v, .int .i64 k0] w fun e w'=>∃ k1,e = .returned (.int .i64 k1)∧k0 ≤ k1∧k1 ≤ k0 + 17592186044416∧Mk plT lo hi w w':=by
 obtain ⟨q,m,c,p,k,d,r,e0,l,rfl,hN,hL,hs⟩:=h
 obtain ⟨W1,hW1⟩:∃ W1,W1 = w.alloc (.cells #[.slice q m c, .slice p k d, .slice r l.length e0] 38):=⟨_,rfl⟩
 have hf:Fresh w W1:=by rw [hW1]; exact fnew (frefl _) _
 have hr:RowAt W1 w.heap.size 38 [.slice q m c, .slice p k d, .slice r l.length e0]:=by rw [hW1]; exact RowAt.new _ _ _
 have hz:=hf.size
 have c0:=hr.cell (i:=0) rfl
 have c1:=hr.cell (i:=1) rfl
 have HW:=Lib.hid hW1
 have HF:=Lib.hid hf
 have HR:=Lib.hid hr
 have HN:=Lib.hid hN
 have HL:=Lib.hid hL
 have HS:=Lib.hid hs
 clear hW1 hf hr hN hL hs
 go_enter Tryz.func16,Tryz.ntmps16
 go_wp2_with fail
 rw [← HW.out]
 clear HW
 refine (markNet_m _ lo hi k0 _ (HN.out.keep HF.out) (by omega) (by omega) h0 (by omega)).mono ?_
 rintro e w1 ⟨k1,rfl,hk1,hk2,hb1⟩
 replace hk2:k1 ≤ k0 + 8796093022208:=hk2
 have c2:=hb1.cell (Or.inr hhi) (HR.out.cell (i:=2) rfl)
 have HM:=Lib.hid hb1
 clear hb1 c0 c1
 go_wp2_with fail
 refine (markLights_m r e0 l lo hi k1 _ ((HL.out.keep HF.out).mk (T:=netT) (by decide) HM.out) HS.out (by omega) (by omega)).mono ?_
 rintro e w2 ⟨k2,rfl,hk3,hk4,hb2⟩
 have HM2:=Lib.hid hb2
 clear hb2 c2
 go_wp2
 go_ret
 refine ⟨_,rfl,by omega,by omega,?_⟩
 exact (Mk.fresh HF.out hlo).trans ((HM.out.more (fun t h=>Or.inl h)).trans (HM2.out.more (fun t h=>Or.inr h)))
theorem and3 {a b c:Prop} (h:a∧b) (k:c):a∧b∧c:=⟨h.1,h.2,k⟩
theorem plan_made {w':World} {base b3 b4 g:Nat} {q m c p k d:_} {N:Net} {L:List LtV} {l':List LL} (hn:NetOwn w' b3 (.agg #[.slice q m c, .slice p k d]) N) (hr:RowAt w' g 94 (l'.flatMap llC))
  (ho:∀ x ∈ l',Own w' b4 3 x.r.q (x.r.fibs.map iv)) (h3:base ≤ b3) (hg:base ≤ g) (h4:base ≤ b4) (hs:PlSmall ⟨N,L⟩) (hv:l'.map LL.val = L) :
  PlIn w' (.agg #[.slice q m c, .slice p k d, .slice (some ⟨g,0,none⟩) l'.length l'.length]) ⟨N,L⟩∧PlMine w' base w'.heap.size (.agg #[.slice q m c, .slice p k d, .slice (some ⟨g,0,none⟩) l'.length l'.length]):=by
 have hs':LtsSmall l':=ltsm_to (by rw [hv]; exact hs.2)
 refine ⟨⟨q,m,c,p,k,d,_,_,l',rfl,hn.net hs.1,⟨hr.cells,fun x hx=>(ho x hx).cells⟩,hs',hv.symm,Nat.le_refl _,by have:=hs'.1; omega⟩,
  ⟨q,m,c,p,k,d,_,_,l',rfl,(hn.mine hs.1).wide h3 (Nat.le_refl _),Or.inr ⟨g,_,rfl,hg,hr.lt,hr,?_,fun i x hx=>⟨?_,?_⟩⟩,hs'⟩⟩
 ·rw [flat_len llC 5 (fun _=>rfl)]; exact Nat.le_refl _
 ·rw [ll_get hx 2 (by omega)]; rfl
 ·have:=(ho x (List.mem_of_getElem? hx)).ownIn
  rw [List.length_map] at this
  exact this.wide h4 (Nat.le_refl _)
set_option maxHeartbeats 2000000 in
theorem toPlan_o (v:Value) (P:PlanV) (w:World) (h:PlIn w v P):Calls Tryz.prog 21 #[v] w fun e w'=>∃ v',e = .returned v'∧PlIn w' v' P∧PlMine w' w.heap.size w'.heap.size v'∧Fresh w w':=by
 have HSM:=Lib.hid h.isSmall
 obtain ⟨N,L⟩:=P
 obtain ⟨q,m,c,p,k,d,r,e,l,rfl,hN,hL,hs,hv,_⟩:=h
 simp only at hN hv ⊢
 obtain ⟨W3,hW3,hsz3,hf3,r1,r2,r3⟩:=three_rows w [.slice q m c, .slice p k d, .slice r l.length e] [.slice none 0 0, .slice none 0 0, .slice none 0 0] [.slice none 0 0, .slice none 0 0, .slice none 0 0] 28 38 38
 have HW3:=Lib.hid hW3
 have HN:=Lib.hid hN
 have HL:=Lib.hid hL
 have HSL:=Lib.hid hs
 have HV:=Lib.hid hv
 have HS:=Lib.hid (And.intro hsz3 (And.intro hf3 (And.intro r1 (And.intro r2 r3))))
 clear hW3 hsz3 hf3 r1 r2 r3 hN hL hs hv
 go_enter Tryz.func21,Tryz.ntmps21
 go_wp2_with fail
 rw [← HW3.out]
 clear HW3
 obtain ⟨hsz3,hf3,r1,r2,r3⟩:=HS.out
 refine (toNetwork_any _ N _ (HN.out.keep hf3)).mono ?_
 rintro e1 w1 ⟨v1,rfl,hn1,hf⟩
 obtain ⟨g1,g2,hv1,_⟩:=id hn1
 subst hv1
 have s1:=r1.keep hf
 have s2:=r2.keep hf
 have s3:=r3.keep hf
 have k12:=s1.cell (i:=2) rfl
 have k30:=s3.cell (i:=0) rfl
 have k31:=s3.cell (i:=1) rfl
 have z30:=s3.frozen 0
 have z31:=s3.frozen 1
 obtain ⟨w2,hw2⟩:∃ w2,w2 = (w1.setCell ⟨w.heap.size + 1 + 1,0,none⟩ (.slice (some ⟨g1,0,none⟩) N.nodes.length N.nodes.length)).setCell ⟨w.heap.size + 1 + 1,1,none⟩ (.slice (some ⟨g2,0,none⟩) N.fibers.length N.fibers.length):=⟨_,rfl⟩
 have hfw:Fresh w w2:=by rw [hw2]; exact fset (fset (fstep hf3 hf) (by omega) _) (by omega) _
 have hn2:NetOwn w2 W3.heap.size (.agg #[.slice (some ⟨g1,0,none⟩) N.nodes.length N.nodes.length, .slice (some ⟨g2,0,none⟩) N.fibers.length N.fibers.length]) N:=by
  rw [hw2]; exact (hn1.setOther (by omega) _).setOther (by omega) _
 have t2:RowAt w2 (w.heap.size + 1) 38 [.slice none 0 0, .slice none 0 0, .slice none 0 0]:=by rw [hw2]; exact (s2.setOther (by omega) _).setOther (by omega) _
 have t3:RowAt w2 (w.heap.size + 1 + 1) 38 [.slice (some ⟨g1,0,none⟩) N.nodes.length N.nodes.length, .slice (some ⟨g2,0,none⟩) N.fibers.length N.fibers.length, .slice none 0 0]:=by rw [hw2]; exact (s3.set 0 _).set 1 _
 have HW2:=Lib.hid hw2
 have HT:=Lib.hid (And.intro hfw (And.intro hn2 (And.intro t2 (And.intro t3 hsz3))))
 clear s1 s2 s3 r1 r2 r3 hn1 hf hf3 HS hsz3 hw2 hfw hn2 t2 t3
 go_wp2_with fail
 rw [← HW2.out]
 clear HW2 k12 k30 k31 z30 z31
 refine (toLightS_any r e l _ (HL.out.keep HT.out.1) HSL.out).mono ?_
 rintro e2 w3 ⟨l',rfl,hlv,hrow,hown,hb⟩
 obtain ⟨hfw,hn2,t2,t3,hsz3⟩:=HT.out
 have hlt:=t3.lt
 have u2:=t2.keep hb
 have u3:=t3.keep hb
 have k20:=u2.cell (i:=0) rfl
 have k21:=u2.cell (i:=1) rfl
 have k22:=u2.cell (i:=2) rfl
 have z20:=u2.frozen 0
 have z21:=u2.frozen 1
 have z22:=u2.frozen 2
 have k30:=u3.cell (i:=0) rfl
 have k31:=u3.cell (i:=1) rfl
 have k32:=u3.cell (i:=2) rfl
 have z32:=u3.frozen 2
 have HR:=Lib.hid (And.intro (hn2.keep hb) (And.intro (fstep hfw hb) (And.intro hlv (And.intro hrow (And.intro hown (And.intro hlt hsz3))))))
 clear u2 u3 t2 t3 hn2 hfw hb HT hsz3 hlv hrow hown hlt
 go_wp2
 obtain ⟨hn3,hf,hlv,hrow,hown,hlt,hsz3⟩:=HR.out
 refine bodyPost_ret (v:=.agg #[.slice (some ⟨g1,0,none⟩) N.nodes.length N.nodes.length, .slice (some ⟨g2,0,none⟩) N.fibers.length N.fibers.length, .slice (some ⟨w2.heap.size,0,none⟩) l'.length l'.length]) (by simp [results,Tryz.results21,go_sem,k20,k21,k22]) rfl ?_
 refine ⟨_,rfl,and3 (plan_made (b3:=W3.heap.size) (b4:=w2.heap.size + 1) (g:=w2.heap.size) ?_ ?_ ?_ (by omega) (by omega) (by omega) HSM.out (hlv.trans HV.out.symm)) ?_⟩
 ·repeat (refine NetOwn.setOther ?_ (by omega) _)
  exact hn3
 ·repeat (refine RowAt.setOther ?_ (by omega) _)
  exact hrow
 ·intro x hx
  repeat (refine Own.setOther ?_ (by omega) _)
  exact hown x hx
 ·repeat (refine fset ?_ (by omega) _)
  exact hf
end Go.Proofs.YteckjlkhopkogaaGreat
