/- Contracts: demands served in an order: the reference's side. -/
import Derived.Test.YteckjlkhopkogaaGreatSv1
namespace Go.Proofs.YteckjlkhopkogaaGreat
open Go.RowKit Go.PlainAid
set_option maxHeartbeats 16000000 in
set_option maxRecDepth 100000 in
theorem l11All_any (v:Value) (P:PlanV) (pf:Option Addr) (cf:Nat) (fm:List (Int × Int)) (pd:Option Addr) (cd:Nat) (ds:List Fib) (fit:Int) (po:Option Addr) (co:Nat) (ord:List Int) (w:World) (h:PlIn w v P) (hfm:Prs w pf fm) (hfl:fm.length≤1048576) (hd:Fibs w pd ds) (hdl:ds.length≤12) (ho:Ints w po ord) (hol:ord.length=ds.length) (hob:∀ i∈ord,0≤i∧i<(ds.length:Int)) (hp:planB P=true) (hus:∀ d∈ds,usB P.net fm d=true) :
  Calls Tryz.prog 76 #[v,.slice pf fm.length cf,.slice pd ds.length cd,.int .i64 fit,.slice po ord.length co] w (OutSa P fm ds fit ord w):=by
 have HPL:=Lib.hid h
 have HPF:=Lib.hid hfm
 have HDS:=Lib.hid hd
 have HOR:=Lib.hid ho
 have HSM:=Lib.hid (svTo_small hp h.isSmall fm ds fit)
 have HGD:=Lib.hid (svTo_good hp fm ds fit)
 have HUS:=Lib.hid hus
 have HOB:=Lib.hid hob
 obtain⟨q,m,c,p,k0,e1,r,i0,e0,rfl⟩:=h.shape
 obtain⟨W2,hW2,hsz2,hf2,r1,r2⟩:=two_rows w [.slice q m c,.slice p k0 e1,.slice r i0 e0] [.slice none 0 0,.slice none 0 0,.slice none 0 0,.slice none 0 0,.int .i64 0] 38 42
 have hmk:=mkInts ds.length (by omega)
 obtain⟨n,hn⟩:∃ n,n=ds.length:=⟨_,rfl⟩
 have HN:=Lib.hid hn
 rw[← hn] at hmk hol hdl ⊢
 have hol2:ord.length≤n:=by omega
 have hol3:n≤ord.length:=by omega
 clear hol
 have HCP:Hid (∀ W,Fresh W2 W→Calls Tryz.prog 45 #[.agg #[.slice q m c,.slice p k0 e1,.slice r i0 e0]] W fun e w'=>∃ v',e=.returned v'∧PlOwn w' W.heap.size v' P∧Fresh W w'):=fun W hW=>l9Own_any _ P W (HPL.out.keep (fstep hf2 hW))
 have HF2:=Lib.hid hf2
 have HR1:=Lib.hid r1
 have HR2:=Lib.hid r2
 have HW2:=Lib.hid hW2
 have HP:=Lib.hid hp
 have hsz:=hf2.size
 have a0:=r1.cell (i:=0) rfl
 have a1:=r1.cell (i:=1) rfl
 have a2:=r1.cell (i:=2) rfl
 have HSS:W2.cell? ⟨w.heap.size,0,none⟩=some (.slice q m c)∧W2.cell? ⟨w.heap.size,1,none⟩=some (.slice p k0 e1)∧W2.cell? ⟨w.heap.size,2,none⟩=some (.slice r i0 e0):=⟨a0,a1,a2⟩
 clear h hfm hd ho hf2 r1 r2 hW2 hp hus hob hn a0 a1 a2
 go_enter Tryz.func76,Tryz.ntmps76
 go_upto_region 1 with fail
 try rw[← HW2.out]
 go_cut [12] (fun z12 wx=>∃ (gb:Nat) (g2:Nat) (a0:Option Addr) (a1:Nat) (a2:Nat) (b0:Option Addr) (b1:Nat) (b2:Nat) (c0:Option Addr) (c1:Nat) (c2:Nat),z12=.pointer (some ⟨gb,0,none⟩)∧RowAt wx gb 42 [.slice a0 a1 a2,.slice b0 b1 b2,.slice c0 c1 c2,.slice (some ⟨g2,0,none⟩) n n,.int .i64 0]∧RowAt wx g2 3 (List.replicate n (iv 0))∧PlOwn wx W2.heap.size (.agg #[.slice a0 a1 a2,.slice b0 b1 b2,.slice c0 c1 c2]) P∧W2.heap.size≤gb∧W2.heap.size≤g2∧gb≠g2∧Fresh W2 wx)
 case first =>
  refine hd_start (n:=7) (S:=fun w'=>w'.cell? ⟨w.heap.size,0,none⟩=some (.slice q m c)∧w'.cell? ⟨w.heap.size,1,none⟩=some (.slice p k0 e1)∧w'.cell? ⟨w.heap.size,2,none⟩=some (.slice r i0 e0)) (by kernel_rfl) (by kernel_rfl) (kq_3 HSS (fdrew (frefl _))) (fun hHeld=>?_)
  obtain⟨Wz,hWz⟩:∃ W,W=W2.drew:=⟨_,rfl⟩
  rw[← hWz] at hHeld ⊢
  have f0:Fresh W2 Wz:=by rw[hWz];exact fdrew (frefl _)
  clear hWz
  refine hd_tk (i:=0) (v:=?_) rfl ?_ ?_
  rotate_left
  ·(intro w hSw;(try dsimp only at hSw);go_simp;first|done|with_reducible rfl)
  refine hd_tk (i:=2) (v:=?_) rfl ?_ ?_
  rotate_left
  ·(intro w hSw;(try dsimp only at hSw);go_simp;first|done|with_reducible rfl)
  refine hd_tk (i:=3) (v:=?_) rfl ?_ ?_
  rotate_left
  ·(intro w hSw;(try dsimp only at hSw);go_simp;first|done|with_reducible rfl)
  refine hd_ready (rs:=[1,4,6]) (by kernel_rfl) (by simp) ?_
  refine hd_cons (i:=1) rfl (by kernel_rfl) (fun K hK=>?_) ?_
  ·skip
   go_simp
   go_at_call 45
   refine(HCP.out _ f0).mono ?_
   rintro e wk1 ⟨v1,rfl,ho0,hb⟩
   obtain⟨a0,a1,a2,b0,b1,b2,c0,c1,c2,rfl⟩:=ho0.shape
   have ho:=ho0.mono f0.size
   clear ho0
   have fk1:=fstep f0 hb
   clear hb
   go_wp2_with fail
   refine hK.out _ _ ?_ (fun hHeld=>?_)
   ·exact kq_3 HSS fk1
   clear hK K
   refine hd_ready (rs:=[4,6]) (by kernel_rfl) (by simp) ?_
   refine hd_cons (i:=4) rfl (by kernel_rfl) (fun K hK=>?_) ?_
   ·skip
    go_simp
    obtain⟨wk2,hwa⟩:∃ W,W=wk1.alloc (.cells (List.replicate n (iv 0)).toArray 3):=⟨_,rfl⟩
    first|rw[← hwa]|(rw[List.toArray_replicate] at hwa;rw[← hwa])|(simp only[List.toArray_replicate] at hwa ⊢;rw[← hwa])
    have hb:Fresh wk1 wk2:=by rw[hwa];exact fnew (frefl _) _
    obtain⟨g2,hg⟩:∃ g,g=wk1.heap.size:=⟨_,rfl⟩
    have ri:RowAt wk2 g2 3 (List.replicate n (iv 0)):=by rw[hwa,hg];first|exact RowAt.new _ _ _|(have:=RowAt.new wk1 3 (List.replicate n (iv 0));simpa using this)
    have hg2:W2.heap.size≤g2:=by rw[hg];exact fk1.size
    have fk2:=fstep fk1 hb
    rw[← hg]
    clear hwa hg
    replace ho:=ho.keep hb
    clear hb
    refine hK.out _ _ ?_ (fun hHeld=>?_)
    ·exact kq_3 HSS fk2
    clear hK K
    refine hd_tk (i:=5) (v:=?_) rfl ?_ ?_
    rotate_left
    ·(intro w hSw;(try dsimp only at hSw);go_simp;first|done|with_reducible rfl)
    refine hd_one (i:=6) rfl (by kernel_rfl) (by kernel_rfl) (fun K hK=>?_)
    go_simp
    obtain⟨wk3,hwa⟩:∃ W,W=wk2.alloc (.cells #[.slice none 0 0,.slice none 0 0,.slice none 0 0,.slice none 0 0,.int .i64 0] 42):=⟨_,rfl⟩
    rw[← hwa]
    have hb:Fresh wk2 wk3:=by rw[hwa];exact fnew (frefl _) _
    obtain⟨gb,hg⟩:∃ g,g=wk2.heap.size:=⟨_,rfl⟩
    have rb:RowAt wk3 gb 42 [.slice none 0 0,.slice none 0 0,.slice none 0 0,.slice none 0 0,.int .i64 0]:=by rw[hwa,hg];exact RowAt.new _ _ _
    have hgb:W2.heap.size≤gb:=by rw[hg];exact fk2.size
    have fk3:=fstep fk2 hb
    rw[← hg]
    have hne:g2≠gb:=by have:=ri.lt;omega
    clear hwa hg
    replace ho:=ho.keep hb
    replace ri:=ri.keep hb
    clear hb
    refine hK.out _ _ ?_ (fun hHeld=>?_)
    ·exact kq_3 HSS fk3
    clear hK K
    refine hd_done (by kernel_rfl) ?_
    clear hHeld
    simp only[List.drop_succ_cons,List.drop_zero]
    have z0:=rb.cell (i:=0) rfl
    have z1:=rb.cell (i:=1) rfl
    have z2:=rb.cell (i:=2) rfl
    have z3:=rb.cell (i:=3) rfl
    have z4:=rb.cell (i:=4) rfl
    have u0:=rb.frozen 0
    have u1:=rb.frozen 1
    have u2:=rb.frozen 2
    have u3:=rb.frozen 3
    have u4:=rb.frozen 4
    have fs:=fset (fset (fset (fset (fset fk3 hgb (o:=0) (.slice a0 a1 a2)) hgb (o:=1) (.slice b0 b1 b2)) hgb (o:=2) (.slice c0 c1 c2)) hgb (o:=3) (.slice (some ⟨g2,0,none⟩) n n)) hgb (o:=4) (.int .i64 0)
    have hrow:=((((rb.set 0 (.slice a0 a1 a2)).set 1 (.slice b0 b1 b2)).set 2 (.slice c0 c1 c2)).set 3 (.slice (some ⟨g2,0,none⟩) n n)).set 4 (.int .i64 0)
    have hids:=((((ri.setOther (o:=0) hne (.slice a0 a1 a2)).setOther (o:=1) hne (.slice b0 b1 b2)).setOther (o:=2) hne (.slice c0 c1 c2)).setOther (o:=3) hne (.slice (some ⟨g2,0,none⟩) n n)).setOther (o:=4) hne (.int .i64 0)
    have hpl:=plown_box5 (a:=.slice a0 a1 a2) (b:=.slice b0 b1 b2) (c:=.slice c0 c1 c2) (d:=.slice (some ⟨g2,0,none⟩) n n) (e:=.int .i64 0) ho rb
    go_wp2_with fail
    go_meet
    exact⟨_,_,_,_,_,_,_,_,_,_,_,rfl,hrow,hids,hpl,hgb,hg2,hne.symm,fs⟩
   ·skip
    refine hd_cons (i:=6) rfl (by kernel_rfl) (fun K hK=>?_) hd_nil
    go_simp
    obtain⟨wk4,hwa⟩:∃ W,W=wk1.alloc (.cells #[.slice none 0 0,.slice none 0 0,.slice none 0 0,.slice none 0 0,.int .i64 0] 42):=⟨_,rfl⟩
    rw[← hwa]
    have hb:Fresh wk1 wk4:=by rw[hwa];exact fnew (frefl _) _
    obtain⟨gb,hg⟩:∃ g,g=wk1.heap.size:=⟨_,rfl⟩
    have rb:RowAt wk4 gb 42 [.slice none 0 0,.slice none 0 0,.slice none 0 0,.slice none 0 0,.int .i64 0]:=by rw[hwa,hg];exact RowAt.new _ _ _
    have hgb:W2.heap.size≤gb:=by rw[hg];exact fk1.size
    have fk4:=fstep fk1 hb
    rw[← hg]
    clear hwa hg
    replace ho:=ho.keep hb
    clear hb
    refine hK.out _ _ ?_ (fun hHeld=>?_)
    ·exact kq_3 HSS fk4
    clear hK K
    refine hd_one (i:=4) rfl (by kernel_rfl) (by kernel_rfl) (fun K hK=>?_)
    go_simp
    obtain⟨wk5,hwa⟩:∃ W,W=wk4.alloc (.cells (List.replicate n (iv 0)).toArray 3):=⟨_,rfl⟩
    first|rw[← hwa]|(rw[List.toArray_replicate] at hwa;rw[← hwa])|(simp only[List.toArray_replicate] at hwa ⊢;rw[← hwa])
    have hb:Fresh wk4 wk5:=by rw[hwa];exact fnew (frefl _) _
    obtain⟨g2,hg⟩:∃ g,g=wk4.heap.size:=⟨_,rfl⟩
    have ri:RowAt wk5 g2 3 (List.replicate n (iv 0)):=by rw[hwa,hg];first|exact RowAt.new _ _ _|(have:=RowAt.new wk4 3 (List.replicate n (iv 0));simpa using this)
    have hg2:W2.heap.size≤g2:=by rw[hg];exact fk4.size
    have fk5:=fstep fk4 hb
    rw[← hg]
    have hne:g2≠gb:=by have:=rb.lt;omega
    clear hwa hg
    replace ho:=ho.keep hb
    replace rb:=rb.keep hb
    clear hb
    refine hK.out _ _ ?_ (fun hHeld=>?_)
    ·exact kq_3 HSS fk5
    clear hK K
    refine hd_tk (i:=5) (v:=?_) rfl ?_ ?_
    rotate_left
    ·(intro w hSw;(try dsimp only at hSw);go_simp;first|done|with_reducible rfl)
    refine hd_done (by kernel_rfl) ?_
    clear hHeld
    simp only[List.drop_succ_cons,List.drop_zero]
    have z0:=rb.cell (i:=0) rfl
    have z1:=rb.cell (i:=1) rfl
    have z2:=rb.cell (i:=2) rfl
    have z3:=rb.cell (i:=3) rfl
    have z4:=rb.cell (i:=4) rfl
    have u0:=rb.frozen 0
    have u1:=rb.frozen 1
    have u2:=rb.frozen 2
    have u3:=rb.frozen 3
    have u4:=rb.frozen 4
    have fs:=fset (fset (fset (fset (fset fk5 hgb (o:=0) (.slice a0 a1 a2)) hgb (o:=1) (.slice b0 b1 b2)) hgb (o:=2) (.slice c0 c1 c2)) hgb (o:=3) (.slice (some ⟨g2,0,none⟩) n n)) hgb (o:=4) (.int .i64 0)
    have hrow:=((((rb.set 0 (.slice a0 a1 a2)).set 1 (.slice b0 b1 b2)).set 2 (.slice c0 c1 c2)).set 3 (.slice (some ⟨g2,0,none⟩) n n)).set 4 (.int .i64 0)
    have hids:=((((ri.setOther (o:=0) hne (.slice a0 a1 a2)).setOther (o:=1) hne (.slice b0 b1 b2)).setOther (o:=2) hne (.slice c0 c1 c2)).setOther (o:=3) hne (.slice (some ⟨g2,0,none⟩) n n)).setOther (o:=4) hne (.int .i64 0)
    have hpl:=plown_box5 (a:=.slice a0 a1 a2) (b:=.slice b0 b1 b2) (c:=.slice c0 c1 c2) (d:=.slice (some ⟨g2,0,none⟩) n n) (e:=.int .i64 0) ho rb
    go_wp2_with fail
    go_meet
    exact⟨_,_,_,_,_,_,_,_,_,_,_,rfl,hrow,hids,hpl,hgb,hg2,hne.symm,fs⟩
  ·skip
   refine hd_cons (i:=4) rfl (by kernel_rfl) (fun K hK=>?_) ?_
   ·skip
    go_simp
    obtain⟨wk6,hwa⟩:∃ W,W=Wz.alloc (.cells (List.replicate n (iv 0)).toArray 3):=⟨_,rfl⟩
    first|rw[← hwa]|(rw[List.toArray_replicate] at hwa;rw[← hwa])|(simp only[List.toArray_replicate] at hwa ⊢;rw[← hwa])
    have hb:Fresh Wz wk6:=by rw[hwa];exact fnew (frefl _) _
    obtain⟨g2,hg⟩:∃ g,g=Wz.heap.size:=⟨_,rfl⟩
    have ri:RowAt wk6 g2 3 (List.replicate n (iv 0)):=by rw[hwa,hg];first|exact RowAt.new _ _ _|(have:=RowAt.new Wz 3 (List.replicate n (iv 0));simpa using this)
    have hg2:W2.heap.size≤g2:=by rw[hg];exact f0.size
    have fk6:=fstep f0 hb
    rw[← hg]
    clear hwa hg
    clear hb
    refine hK.out _ _ ?_ (fun hHeld=>?_)
    ·exact kq_3 HSS fk6
    clear hK K
    refine hd_ready (rs:=[1,6]) (by kernel_rfl) (by simp) ?_
    refine hd_cons (i:=1) rfl (by kernel_rfl) (fun K hK=>?_) ?_
    ·skip
     go_simp
     go_at_call 45
     refine(HCP.out _ fk6).mono ?_
     rintro e wk7 ⟨v1,rfl,ho0,hb⟩
     obtain⟨a0,a1,a2,b0,b1,b2,c0,c1,c2,rfl⟩:=ho0.shape
     have ho:=ho0.mono fk6.size
     clear ho0
     have fk7:=fstep fk6 hb
     replace ri:=ri.keep hb
     clear hb
     go_wp2_with fail
     refine hK.out _ _ ?_ (fun hHeld=>?_)
     ·exact kq_3 HSS fk7
     clear hK K
     refine hd_tk (i:=5) (v:=?_) rfl ?_ ?_
     rotate_left
     ·(intro w hSw;(try dsimp only at hSw);go_simp;first|done|with_reducible rfl)
     refine hd_one (i:=6) rfl (by kernel_rfl) (by kernel_rfl) (fun K hK=>?_)
     go_simp
     obtain⟨wk8,hwa⟩:∃ W,W=wk7.alloc (.cells #[.slice none 0 0,.slice none 0 0,.slice none 0 0,.slice none 0 0,.int .i64 0] 42):=⟨_,rfl⟩
     rw[← hwa]
     have hb:Fresh wk7 wk8:=by rw[hwa];exact fnew (frefl _) _
     obtain⟨gb,hg⟩:∃ g,g=wk7.heap.size:=⟨_,rfl⟩
     have rb:RowAt wk8 gb 42 [.slice none 0 0,.slice none 0 0,.slice none 0 0,.slice none 0 0,.int .i64 0]:=by rw[hwa,hg];exact RowAt.new _ _ _
     have hgb:W2.heap.size≤gb:=by rw[hg];exact fk7.size
     have fk8:=fstep fk7 hb
     rw[← hg]
     have hne:g2≠gb:=by have:=ri.lt;omega
     clear hwa hg
     replace ho:=ho.keep hb
     replace ri:=ri.keep hb
     clear hb
     refine hK.out _ _ ?_ (fun hHeld=>?_)
     ·exact kq_3 HSS fk8
     clear hK K
     refine hd_done (by kernel_rfl) ?_
     clear hHeld
     simp only[List.drop_succ_cons,List.drop_zero]
     have z0:=rb.cell (i:=0) rfl
     have z1:=rb.cell (i:=1) rfl
     have z2:=rb.cell (i:=2) rfl
     have z3:=rb.cell (i:=3) rfl
     have z4:=rb.cell (i:=4) rfl
     have u0:=rb.frozen 0
     have u1:=rb.frozen 1
     have u2:=rb.frozen 2
     have u3:=rb.frozen 3
     have u4:=rb.frozen 4
     have fs:=fset (fset (fset (fset (fset fk8 hgb (o:=0) (.slice a0 a1 a2)) hgb (o:=1) (.slice b0 b1 b2)) hgb (o:=2) (.slice c0 c1 c2)) hgb (o:=3) (.slice (some ⟨g2,0,none⟩) n n)) hgb (o:=4) (.int .i64 0)
     have hrow:=((((rb.set 0 (.slice a0 a1 a2)).set 1 (.slice b0 b1 b2)).set 2 (.slice c0 c1 c2)).set 3 (.slice (some ⟨g2,0,none⟩) n n)).set 4 (.int .i64 0)
     have hids:=((((ri.setOther (o:=0) hne (.slice a0 a1 a2)).setOther (o:=1) hne (.slice b0 b1 b2)).setOther (o:=2) hne (.slice c0 c1 c2)).setOther (o:=3) hne (.slice (some ⟨g2,0,none⟩) n n)).setOther (o:=4) hne (.int .i64 0)
     have hpl:=plown_box5 (a:=.slice a0 a1 a2) (b:=.slice b0 b1 b2) (c:=.slice c0 c1 c2) (d:=.slice (some ⟨g2,0,none⟩) n n) (e:=.int .i64 0) ho rb
     go_wp2_with fail
     go_meet
     exact⟨_,_,_,_,_,_,_,_,_,_,_,rfl,hrow,hids,hpl,hgb,hg2,hne.symm,fs⟩
    ·skip
     refine hd_cons (i:=6) rfl (by kernel_rfl) (fun K hK=>?_) hd_nil
     go_simp
     obtain⟨wk9,hwa⟩:∃ W,W=wk6.alloc (.cells #[.slice none 0 0,.slice none 0 0,.slice none 0 0,.slice none 0 0,.int .i64 0] 42):=⟨_,rfl⟩
     rw[← hwa]
     have hb:Fresh wk6 wk9:=by rw[hwa];exact fnew (frefl _) _
     obtain⟨gb,hg⟩:∃ g,g=wk6.heap.size:=⟨_,rfl⟩
     have rb:RowAt wk9 gb 42 [.slice none 0 0,.slice none 0 0,.slice none 0 0,.slice none 0 0,.int .i64 0]:=by rw[hwa,hg];exact RowAt.new _ _ _
     have hgb:W2.heap.size≤gb:=by rw[hg];exact fk6.size
     have fk9:=fstep fk6 hb
     rw[← hg]
     have hne:g2≠gb:=by have:=ri.lt;omega
     clear hwa hg
     replace ri:=ri.keep hb
     clear hb
     refine hK.out _ _ ?_ (fun hHeld=>?_)
     ·exact kq_3 HSS fk9
     clear hK K
     refine hd_one (i:=1) rfl (by kernel_rfl) (by kernel_rfl) (fun K hK=>?_)
     go_simp
     go_at_call 45
     refine(HCP.out _ fk9).mono ?_
     rintro e wk10 ⟨v1,rfl,ho0,hb⟩
     obtain⟨a0,a1,a2,b0,b1,b2,c0,c1,c2,rfl⟩:=ho0.shape
     have ho:=ho0.mono fk9.size
     clear ho0
     have fk10:=fstep fk9 hb
     replace ri:=ri.keep hb
     replace rb:=rb.keep hb
     clear hb
     go_wp2_with fail
     refine hK.out _ _ ?_ (fun hHeld=>?_)
     ·exact kq_3 HSS fk10
     clear hK K
     refine hd_tk (i:=5) (v:=?_) rfl ?_ ?_
     rotate_left
     ·(intro w hSw;(try dsimp only at hSw);go_simp;first|done|with_reducible rfl)
     refine hd_done (by kernel_rfl) ?_
     clear hHeld
     simp only[List.drop_succ_cons,List.drop_zero]
     have z0:=rb.cell (i:=0) rfl
     have z1:=rb.cell (i:=1) rfl
     have z2:=rb.cell (i:=2) rfl
     have z3:=rb.cell (i:=3) rfl
     have z4:=rb.cell (i:=4) rfl
     have u0:=rb.frozen 0
     have u1:=rb.frozen 1
     have u2:=rb.frozen 2
     have u3:=rb.frozen 3
     have u4:=rb.frozen 4
     have fs:=fset (fset (fset (fset (fset fk10 hgb (o:=0) (.slice a0 a1 a2)) hgb (o:=1) (.slice b0 b1 b2)) hgb (o:=2) (.slice c0 c1 c2)) hgb (o:=3) (.slice (some ⟨g2,0,none⟩) n n)) hgb (o:=4) (.int .i64 0)
     have hrow:=((((rb.set 0 (.slice a0 a1 a2)).set 1 (.slice b0 b1 b2)).set 2 (.slice c0 c1 c2)).set 3 (.slice (some ⟨g2,0,none⟩) n n)).set 4 (.int .i64 0)
     have hids:=((((ri.setOther (o:=0) hne (.slice a0 a1 a2)).setOther (o:=1) hne (.slice b0 b1 b2)).setOther (o:=2) hne (.slice c0 c1 c2)).setOther (o:=3) hne (.slice (some ⟨g2,0,none⟩) n n)).setOther (o:=4) hne (.int .i64 0)
     have hpl:=plown_box5 (a:=.slice a0 a1 a2) (b:=.slice b0 b1 b2) (c:=.slice c0 c1 c2) (d:=.slice (some ⟨g2,0,none⟩) n n) (e:=.int .i64 0) ho rb
     go_wp2_with fail
     go_meet
     exact⟨_,_,_,_,_,_,_,_,_,_,_,rfl,hrow,hids,hpl,hgb,hg2,hne.symm,fs⟩
   ·skip
    refine hd_cons (i:=6) rfl (by kernel_rfl) (fun K hK=>?_) hd_nil
    go_simp
    obtain⟨wk11,hwa⟩:∃ W,W=Wz.alloc (.cells #[.slice none 0 0,.slice none 0 0,.slice none 0 0,.slice none 0 0,.int .i64 0] 42):=⟨_,rfl⟩
    rw[← hwa]
    have hb:Fresh Wz wk11:=by rw[hwa];exact fnew (frefl _) _
    obtain⟨gb,hg⟩:∃ g,g=Wz.heap.size:=⟨_,rfl⟩
    have rb:RowAt wk11 gb 42 [.slice none 0 0,.slice none 0 0,.slice none 0 0,.slice none 0 0,.int .i64 0]:=by rw[hwa,hg];exact RowAt.new _ _ _
    have hgb:W2.heap.size≤gb:=by rw[hg];exact f0.size
    have fk11:=fstep f0 hb
    rw[← hg]
    clear hwa hg
    clear hb
    refine hK.out _ _ ?_ (fun hHeld=>?_)
    ·exact kq_3 HSS fk11
    clear hK K
    refine hd_ready (rs:=[1,4]) (by kernel_rfl) (by simp) ?_
    refine hd_cons (i:=1) rfl (by kernel_rfl) (fun K hK=>?_) ?_
    ·skip
     go_simp
     go_at_call 45
     refine(HCP.out _ fk11).mono ?_
     rintro e wk12 ⟨v1,rfl,ho0,hb⟩
     obtain⟨a0,a1,a2,b0,b1,b2,c0,c1,c2,rfl⟩:=ho0.shape
     have ho:=ho0.mono fk11.size
     clear ho0
     have fk12:=fstep fk11 hb
     replace rb:=rb.keep hb
     clear hb
     go_wp2_with fail
     refine hK.out _ _ ?_ (fun hHeld=>?_)
     ·exact kq_3 HSS fk12
     clear hK K
     refine hd_one (i:=4) rfl (by kernel_rfl) (by kernel_rfl) (fun K hK=>?_)
     go_simp
     obtain⟨wk13,hwa⟩:∃ W,W=wk12.alloc (.cells (List.replicate n (iv 0)).toArray 3):=⟨_,rfl⟩
     first|rw[← hwa]|(rw[List.toArray_replicate] at hwa;rw[← hwa])|(simp only[List.toArray_replicate] at hwa ⊢;rw[← hwa])
     have hb:Fresh wk12 wk13:=by rw[hwa];exact fnew (frefl _) _
     obtain⟨g2,hg⟩:∃ g,g=wk12.heap.size:=⟨_,rfl⟩
     have ri:RowAt wk13 g2 3 (List.replicate n (iv 0)):=by rw[hwa,hg];first|exact RowAt.new _ _ _|(have:=RowAt.new wk12 3 (List.replicate n (iv 0));simpa using this)
     have hg2:W2.heap.size≤g2:=by rw[hg];exact fk12.size
     have fk13:=fstep fk12 hb
     rw[← hg]
     have hne:g2≠gb:=by have:=rb.lt;omega
     clear hwa hg
     replace ho:=ho.keep hb
     replace rb:=rb.keep hb
     clear hb
     refine hK.out _ _ ?_ (fun hHeld=>?_)
     ·exact kq_3 HSS fk13
     clear hK K
     refine hd_tk (i:=5) (v:=?_) rfl ?_ ?_
     rotate_left
     ·(intro w hSw;(try dsimp only at hSw);go_simp;first|done|with_reducible rfl)
     refine hd_done (by kernel_rfl) ?_
     clear hHeld
     simp only[List.drop_succ_cons,List.drop_zero]
     have z0:=rb.cell (i:=0) rfl
     have z1:=rb.cell (i:=1) rfl
     have z2:=rb.cell (i:=2) rfl
     have z3:=rb.cell (i:=3) rfl
     have z4:=rb.cell (i:=4) rfl
     have u0:=rb.frozen 0
     have u1:=rb.frozen 1
     have u2:=rb.frozen 2
     have u3:=rb.frozen 3
     have u4:=rb.frozen 4
     have fs:=fset (fset (fset (fset (fset fk13 hgb (o:=0) (.slice a0 a1 a2)) hgb (o:=1) (.slice b0 b1 b2)) hgb (o:=2) (.slice c0 c1 c2)) hgb (o:=3) (.slice (some ⟨g2,0,none⟩) n n)) hgb (o:=4) (.int .i64 0)
     have hrow:=((((rb.set 0 (.slice a0 a1 a2)).set 1 (.slice b0 b1 b2)).set 2 (.slice c0 c1 c2)).set 3 (.slice (some ⟨g2,0,none⟩) n n)).set 4 (.int .i64 0)
     have hids:=((((ri.setOther (o:=0) hne (.slice a0 a1 a2)).setOther (o:=1) hne (.slice b0 b1 b2)).setOther (o:=2) hne (.slice c0 c1 c2)).setOther (o:=3) hne (.slice (some ⟨g2,0,none⟩) n n)).setOther (o:=4) hne (.int .i64 0)
     have hpl:=plown_box5 (a:=.slice a0 a1 a2) (b:=.slice b0 b1 b2) (c:=.slice c0 c1 c2) (d:=.slice (some ⟨g2,0,none⟩) n n) (e:=.int .i64 0) ho rb
     go_wp2_with fail
     go_meet
     exact⟨_,_,_,_,_,_,_,_,_,_,_,rfl,hrow,hids,hpl,hgb,hg2,hne.symm,fs⟩
    ·skip
     refine hd_cons (i:=4) rfl (by kernel_rfl) (fun K hK=>?_) hd_nil
     go_simp
     obtain⟨wk14,hwa⟩:∃ W,W=wk11.alloc (.cells (List.replicate n (iv 0)).toArray 3):=⟨_,rfl⟩
     first|rw[← hwa]|(rw[List.toArray_replicate] at hwa;rw[← hwa])|(simp only[List.toArray_replicate] at hwa ⊢;rw[← hwa])
     have hb:Fresh wk11 wk14:=by rw[hwa];exact fnew (frefl _) _
     obtain⟨g2,hg⟩:∃ g,g=wk11.heap.size:=⟨_,rfl⟩
     have ri:RowAt wk14 g2 3 (List.replicate n (iv 0)):=by rw[hwa,hg];first|exact RowAt.new _ _ _|(have:=RowAt.new wk11 3 (List.replicate n (iv 0));simpa using this)
     have hg2:W2.heap.size≤g2:=by rw[hg];exact fk11.size
     have fk14:=fstep fk11 hb
     rw[← hg]
     have hne:g2≠gb:=by have:=rb.lt;omega
     clear hwa hg
     replace rb:=rb.keep hb
     clear hb
     refine hK.out _ _ ?_ (fun hHeld=>?_)
     ·exact kq_3 HSS fk14
     clear hK K
     refine hd_one (i:=1) rfl (by kernel_rfl) (by kernel_rfl) (fun K hK=>?_)
     go_simp
     go_at_call 45
     refine(HCP.out _ fk14).mono ?_
     rintro e wk15 ⟨v1,rfl,ho0,hb⟩
     obtain⟨a0,a1,a2,b0,b1,b2,c0,c1,c2,rfl⟩:=ho0.shape
     have ho:=ho0.mono fk14.size
     clear ho0
     have fk15:=fstep fk14 hb
     replace ri:=ri.keep hb
     replace rb:=rb.keep hb
     clear hb
     go_wp2_with fail
     refine hK.out _ _ ?_ (fun hHeld=>?_)
     ·exact kq_3 HSS fk15
     clear hK K
     refine hd_tk (i:=5) (v:=?_) rfl ?_ ?_
     rotate_left
     ·(intro w hSw;(try dsimp only at hSw);go_simp;first|done|with_reducible rfl)
     refine hd_done (by kernel_rfl) ?_
     clear hHeld
     simp only[List.drop_succ_cons,List.drop_zero]
     have z0:=rb.cell (i:=0) rfl
     have z1:=rb.cell (i:=1) rfl
     have z2:=rb.cell (i:=2) rfl
     have z3:=rb.cell (i:=3) rfl
     have z4:=rb.cell (i:=4) rfl
     have u0:=rb.frozen 0
     have u1:=rb.frozen 1
     have u2:=rb.frozen 2
     have u3:=rb.frozen 3
     have u4:=rb.frozen 4
     have fs:=fset (fset (fset (fset (fset fk15 hgb (o:=0) (.slice a0 a1 a2)) hgb (o:=1) (.slice b0 b1 b2)) hgb (o:=2) (.slice c0 c1 c2)) hgb (o:=3) (.slice (some ⟨g2,0,none⟩) n n)) hgb (o:=4) (.int .i64 0)
     have hrow:=((((rb.set 0 (.slice a0 a1 a2)).set 1 (.slice b0 b1 b2)).set 2 (.slice c0 c1 c2)).set 3 (.slice (some ⟨g2,0,none⟩) n n)).set 4 (.int .i64 0)
     have hids:=((((ri.setOther (o:=0) hne (.slice a0 a1 a2)).setOther (o:=1) hne (.slice b0 b1 b2)).setOther (o:=2) hne (.slice c0 c1 c2)).setOther (o:=3) hne (.slice (some ⟨g2,0,none⟩) n n)).setOther (o:=4) hne (.int .i64 0)
     have hpl:=plown_box5 (a:=.slice a0 a1 a2) (b:=.slice b0 b1 b2) (c:=.slice c0 c1 c2) (d:=.slice (some ⟨g2,0,none⟩) n n) (e:=.int .i64 0) ho rb
     go_wp2_with fail
     go_meet
     exact⟨_,_,_,_,_,_,_,_,_,_,_,rfl,hrow,hids,hpl,hgb,hg2,hne.symm,fs⟩
 case rest =>
  obtain⟨gb,g2,a0,a1,a2,b0,b1,b2,c0,c1,c2,rfl,hrow,hids,hpl,hgb,hg2,hne,hf⟩:=hcut
  have HB0:Hid (SdBox wc W2.heap.size gb (P,List.replicate ds.length 0,0) 0):=⟨_,_,_,_,_,_,_,_,_,g2,W2.heap.size,by rw[← HN.out] ;simpa using hrow,Nat.le_refl _,hpl,by rw[← HN.out];simpa using hids,hg2,hgb,fun h=>absurd h (by omega)⟩
  obtain⟨wc0,hwc⟩:∃ W,W=wc:=⟨_,rfl⟩
  rw[← hwc] at HB0 hf ⊢
  have HF0:=Lib.hid hf
  clear hrow hids hpl hf hwc hg2 hne HSS hmk
  go_wp2
  go_loopw [13] (fun vi wr=>∃ (j:Nat) (S:SdV),j≤ord.length∧vi=.int .i64 j∧Hid (svTo P fm ds fit (ord.take j)=some S)∧SdBox wr W2.heap.size gb S j∧Fresh W2 wr) (fun vi _=>ord.length - (intOf vi).toNat)
  case atStart=>exact⟨0,_,Nat.zero_le _,rfl,(show _=_ from svTo_nil P fm ds fit),HB0.out,HF0.out⟩
  case round =>
   obtain⟨j,S,hj,rfl,HTO,hbox,hf⟩:=hrel
   obtain⟨g1,g2',g3',g4,g5⟩:=HGD.out _ S HTO.out
   have g7:(ord.take j).length≤ord.length:=by rw[List.length_take];omega
   have g6:S.2.2≤(ord.length:Int):=by omega
   have hsm:=HSM.out _ S HTO.out
   have HBX:=Lib.hid hbox
   have HF:=Lib.hid hf
   by_cases hlt:j<ord.length
   ·have hltz:(j:Int)<(ord.length:Int):=by omega
    obtain⟨bt,ot,x,rfl,hx,x00⟩:=HOR.out.at hlt
    have x0:=fkeep hf (fkeep HF2.out x00)
    have X00:=Lib.hid x00
    clear x00
    have HTK:Hid (ord.take (j+1)=ord.take j++[x]):=by show _=_;rw[List.take_add_one,hx];rfl
    obtain⟨hx0,hx1⟩:=HOB.out x (List.mem_of_getElem? hx)
    obtain⟨i,rfl⟩:∃ i:Nat,x=(i:Int):=⟨x.toNat,by omega⟩
    have hil:i<ds.length:=by omega
    have hilz:(i:Int)<(n:Int):=by rw[HN.out];omega
    obtain⟨bd,od,da,db,dl,dr,rfl,hdx,d0,d1,d2,d3⟩:=((HDS.out.keep HF2.out).keep hf).at hil
    have hgd:ds.getD (i:Int).toNat dFib=⟨da,db,dl,dr⟩:=by rw[Int.toNat_natCast,List.getD_eq_getElem?_getD,hdx];rfl
    have hub:usB S.1.net fm ⟨da,db,dl,dr⟩=true:=by rw[g2'];exact HUS.out _ (List.mem_of_getElem? hdx)
    obtain⟨q',m',c',p',k',d',r',i',e',gi,bb2,hrow,hb2,hpl,hids,hgi,hgG,hap⟩:=hbox
    have HROW:=Lib.hid hrow
    have HPLX:=Lib.hid hpl
    have HIDS:=Lib.hid hids
    have hGl:gb<wr.heap.size:=hrow.lt
    have hgl:gi<wr.heap.size:=hids.lt
    have hGg:gb≠gi:=fun e=>by subst e;exact absurd (hrow.inj hids).1 (by decide)
    have HSV:Hid (∀ W,Fresh wr W→Calls Tryz.prog 73 #[.agg #[.slice q' m' c',.slice p' k' d',.slice r' i' e'],.slice pf fm.length cf,.agg #[.int .i64 da,.int .i64 db,.int .i64 dl,.int .i64 dr],.int .i64 fit] W (OutSv S.1 fm ⟨da,db,dl,dr⟩ fit W)):=fun W hW=>l11Serve_any _ S.1 pf cf fm ⟨da,db,dl,dr⟩ fit W ((HPLX.out.keep hW).plIn hsm) (HPF.out.keep (fstep HF2.out (fstep hf hW))) hfl g1 hub
    have HST:Hid (svTo P fm ds fit (ord.take (j+1))=svS fm ds fit (some S) (i:Int)):=by show _=_;rw[HTK.out,svTo_snoc,HTO.out]
    have HS1:Hid (sv1 fm ds fit S (i:Int)=serveF S.1 fm ⟨da,db,dl,dr⟩ fit):=by show _=_;unfold sv1;rw[hgd]
    obtain⟨⟨rp,ri,rk⟩,hR⟩:∃ R,R=serveF S.1 fm ⟨da,db,dl,dr⟩ fit:=⟨_,rfl⟩
    unfold OutSv at HSV
    rw[← hR] at HSV HS1
    have HSS:wr.cell? ⟨gb,0,none⟩=some (.slice q' m' c')∧wr.cell? ⟨gb,1,none⟩=some (.slice p' k' d')∧wr.cell? ⟨gb,2,none⟩=some (.slice r' i' e')∧wr.cell? ⟨bd,od+i * 4,none⟩=some (.int .i64 da)∧wr.cell? ⟨bd,od+i * 4+1,none⟩=some (.int .i64 db)∧wr.cell? ⟨bd,od+i * 4+2,none⟩=some (.int .i64 dl)∧wr.cell? ⟨bd,od+i * 4+3,none⟩=some (.int .i64 dr)∧wr.cell? ⟨bt,ot+j,none⟩=some (.int .i64 (i:Int)):=⟨hrow.cell (i:=0) rfl,hrow.cell (i:=1) rfl,hrow.cell (i:=2) rfl,d0,d1,d2,d3,x0⟩
    clear hx hdx hrow hpl hids hf hR hgd hub g1 g2' hsm d0 d1 d2 d3
    go_upto_region 5 with fail
    go_cut [14,15,16] (fun z14 z15 z16 wx=>∃ (gp:Nat) (a0:Option Addr) (a1:Nat) (a2:Nat) (b0:Option Addr) (b1:Nat) (b2:Nat) (c0:Option Addr) (c1:Nat) (c2:Nat),z14=.pointer (some ⟨gp,0,none⟩)∧z15=.int .i64 ri∧z16=.bool rk∧RowAt wx gp 38 [.slice a0 a1 a2,.slice b0 b1 b2,.slice c0 c1 c2]∧PlOwn wx wr.heap.size (.agg #[.slice a0 a1 a2,.slice b0 b1 b2,.slice c0 c1 c2]) rp∧Fresh wr wx)
    case first =>
     refine hd_start (n:=19) (S:=fun w'=>w'.cell? ⟨gb,0,none⟩=some (.slice q' m' c')∧w'.cell? ⟨gb,1,none⟩=some (.slice p' k' d')∧w'.cell? ⟨gb,2,none⟩=some (.slice r' i' e')∧w'.cell? ⟨bd,od+i * 4,none⟩=some (.int .i64 da)∧w'.cell? ⟨bd,od+i * 4+1,none⟩=some (.int .i64 db)∧w'.cell? ⟨bd,od+i * 4+2,none⟩=some (.int .i64 dl)∧w'.cell? ⟨bd,od+i * 4+3,none⟩=some (.int .i64 dr)∧w'.cell? ⟨bt,ot+j,none⟩=some (.int .i64 (i:Int))) (by kernel_rfl) (by kernel_rfl) (kq_341 HSS (fdrew (frefl _))) (fun hHeld=>?_)
     obtain⟨Wz,hWz⟩:∃ W,W=wr.drew:=⟨_,rfl⟩
     rw[← hWz] at hHeld ⊢
     have f0:Fresh wr Wz:=by rw[hWz];exact fdrew (frefl _)
     clear hWz
     refine hd_tk (i:=0) (v:=?_) rfl ?_ ?_
     rotate_left
     ·(intro w hSw;(try dsimp only at hSw);go_simp;first|done|with_reducible rfl)
     refine hd_tk (i:=1) (v:=?_) rfl ?_ ?_
     rotate_left
     ·(intro w hSw;(try dsimp only at hSw);go_simp;first|done|with_reducible rfl)
     refine hd_tk (i:=2) (v:=?_) rfl ?_ ?_
     rotate_left
     ·(intro w hSw;(try dsimp only at hSw);go_simp;first|done|with_reducible rfl)
     refine hd_tk (i:=3) (v:=?_) rfl ?_ ?_
     rotate_left
     ·(intro w hSw;(try dsimp only at hSw);go_simp;first|done|with_reducible rfl)
     refine hd_tk (i:=4) (v:=?_) rfl ?_ ?_
     rotate_left
     ·(intro w hSw;(try dsimp only at hSw);go_simp;first|done|with_reducible rfl)
     refine hd_tk (i:=5) (v:=?_) rfl ?_ ?_
     rotate_left
     ·(intro w hSw;(try dsimp only at hSw);go_simp;first|done|with_reducible rfl)
     refine hd_tk (i:=10) (v:=?_) rfl ?_ ?_
     rotate_left
     ·(intro w hSw;(try dsimp only at hSw);go_simp;first|done|with_reducible rfl)
     refine hd_tk (i:=6) (v:=?_) rfl ?_ ?_
     rotate_left
     ·(intro w hSw;(try dsimp only at hSw);go_simp;first|done|with_reducible rfl)
     refine hd_tk (i:=7) (v:=?_) rfl ?_ ?_
     rotate_left
     ·(intro w hSw;(try dsimp only at hSw);go_simp;first|done|with_reducible rfl)
     refine hd_tk (i:=8) (v:=?_) rfl ?_ ?_
     rotate_left
     ·(intro w hSw;(try dsimp only at hSw);go_simp;first|done|with_reducible rfl)
     refine hd_tk (i:=9) (v:=?_) rfl ?_ ?_
     rotate_left
     ·(intro w hSw;(try dsimp only at hSw);go_simp;first|done|with_reducible rfl)
     refine hd_ready (rs:=[11,16]) (by kernel_rfl) (by simp) ?_
     refine hd_cons (i:=11) rfl (by kernel_rfl) (fun K hK=>?_) ?_
     ·skip
      go_simp
      go_at_call 73
      refine(HSV.out _ f0).mono ?_
      rintro e wk1 ⟨v1,rfl,ho0,hb⟩
      obtain⟨a0,a1,a2,b0,b1,b2,c0,c1,c2,rfl⟩:=ho0.shape
      have ho:=ho0.mono f0.size
      clear ho0
      have f1:=fstep f0 hb
      clear hb
      go_wp2_with fail
      refine hK.out _ _ ?_ (fun hHeld=>?_)
      ·exact kq_341 HSS f1
      clear hK K
      refine hd_tk (i:=12) (v:=?_) rfl ?_ ?_
      rotate_left
      ·(intro w hSw;(try dsimp only at hSw);go_simp;first|done|with_reducible rfl)
      refine hd_tk (i:=13) (v:=?_) rfl ?_ ?_
      rotate_left
      ·(intro w hSw;(try dsimp only at hSw);go_simp;first|done|with_reducible rfl)
      refine hd_tk (i:=14) (v:=?_) rfl ?_ ?_
      rotate_left
      ·(intro w hSw;(try dsimp only at hSw);go_simp;first|done|with_reducible rfl)
      refine hd_tk (i:=15) (v:=?_) rfl ?_ ?_
      rotate_left
      ·(intro w hSw;(try dsimp only at hSw);go_simp;first|done|with_reducible rfl)
      refine hd_one (i:=16) rfl (by kernel_rfl) (by kernel_rfl) (fun K hK=>?_)
      go_simp
      obtain⟨wk2,hwa⟩:∃ W,W=wk1.alloc (.cells #[.slice none 0 0,.slice none 0 0,.slice none 0 0] 38):=⟨_,rfl⟩
      rw[← hwa]
      have hb:Fresh wk1 wk2:=by rw[hwa];exact fnew (frefl _) _
      obtain⟨gp,hg⟩:∃ g,g=wk1.heap.size:=⟨_,rfl⟩
      have ra:RowAt wk2 gp 38 [.slice none 0 0,.slice none 0 0,.slice none 0 0]:=by rw[hwa,hg];exact RowAt.new _ _ _
      have hga:wr.heap.size≤gp:=by rw[hg];exact f1.size
      have f2:=fstep f1 hb
      rw[← hg]
      replace ho:=ho.keep hb
      clear hwa hg hb
      refine hK.out _ _ ?_ (fun hHeld=>?_)
      ·exact kq_341 HSS f2
      clear hK K
      have z0:=ra.cell (i:=0) rfl
      have z1:=ra.cell (i:=1) rfl
      have z2:=ra.cell (i:=2) rfl
      have u0:=ra.frozen 0
      have u1:=ra.frozen 1
      have u2:=ra.frozen 2
      have fs:=(fset (fset (fset f2 hga (o:=0) (.slice a0 a1 a2)) hga (o:=1) (.slice b0 b1 b2)) hga (o:=2) (.slice c0 c1 c2))
      refine hd_one (i:=17) rfl (by kernel_rfl) (by kernel_rfl) (fun K hK=>?_)
      (go_simp)
      refine hK.out _ _ ?_ (fun hHeld=>?_)
      ·exact kq_341 HSS fs
      clear hK K
      refine hd_tk (i:=18) (v:=?_) rfl ?_ ?_
      rotate_left
      ·(intro w hSw;(try dsimp only at hSw);go_simp;first|done|with_reducible rfl)
      refine hd_done (by kernel_rfl) ?_
      clear hHeld
      simp only[List.drop_succ_cons,List.drop_zero]
      go_wp2_with fail
      go_meet
      exact⟨_,_,_,_,_,_,_,_,_,_,rfl,rfl,rfl,((ra.set 0 _).set 1 _).set 2 _,ho.box ra,fs⟩
     ·refine hd_cons (i:=16) rfl (by kernel_rfl) (fun K hK=>?_) hd_nil
      go_simp
      obtain⟨wk1,hwa⟩:∃ W,W=Wz.alloc (.cells #[.slice none 0 0,.slice none 0 0,.slice none 0 0] 38):=⟨_,rfl⟩
      rw[← hwa]
      have hb:Fresh Wz wk1:=by rw[hwa];exact fnew (frefl _) _
      obtain⟨gp,hg⟩:∃ g,g=Wz.heap.size:=⟨_,rfl⟩
      have ra:RowAt wk1 gp 38 [.slice none 0 0,.slice none 0 0,.slice none 0 0]:=by rw[hwa,hg];exact RowAt.new _ _ _
      have hga:wr.heap.size≤gp:=by rw[hg];exact f0.size
      have f1:=fstep f0 hb
      rw[← hg]
      clear hwa hg hb
      refine hK.out _ _ ?_ (fun hHeld=>?_)
      ·exact kq_341 HSS f1
      clear hK K
      refine hd_one (i:=11) rfl (by kernel_rfl) (by kernel_rfl) (fun K hK=>?_)
      go_simp
      go_at_call 73
      refine(HSV.out _ f1).mono ?_
      rintro e wk2 ⟨v1,rfl,ho0,hb⟩
      obtain⟨a0,a1,a2,b0,b1,b2,c0,c1,c2,rfl⟩:=ho0.shape
      have ho:=ho0.mono f1.size
      clear ho0
      have f2:=fstep f1 hb
      replace ra:=ra.keep hb
      clear hb
      go_wp2_with fail
      refine hK.out _ _ ?_ (fun hHeld=>?_)
      ·exact kq_341 HSS f2
      clear hK K
      refine hd_tk (i:=12) (v:=?_) rfl ?_ ?_
      rotate_left
      ·(intro w hSw;(try dsimp only at hSw);go_simp;first|done|with_reducible rfl)
      refine hd_tk (i:=13) (v:=?_) rfl ?_ ?_
      rotate_left
      ·(intro w hSw;(try dsimp only at hSw);go_simp;first|done|with_reducible rfl)
      refine hd_tk (i:=14) (v:=?_) rfl ?_ ?_
      rotate_left
      ·(intro w hSw;(try dsimp only at hSw);go_simp;first|done|with_reducible rfl)
      refine hd_tk (i:=15) (v:=?_) rfl ?_ ?_
      rotate_left
      ·(intro w hSw;(try dsimp only at hSw);go_simp;first|done|with_reducible rfl)
      have z0:=ra.cell (i:=0) rfl
      have z1:=ra.cell (i:=1) rfl
      have z2:=ra.cell (i:=2) rfl
      have u0:=ra.frozen 0
      have u1:=ra.frozen 1
      have u2:=ra.frozen 2
      have fs:=(fset (fset (fset f2 hga (o:=0) (.slice a0 a1 a2)) hga (o:=1) (.slice b0 b1 b2)) hga (o:=2) (.slice c0 c1 c2))
      refine hd_one (i:=17) rfl (by kernel_rfl) (by kernel_rfl) (fun K hK=>?_)
      (go_simp)
      refine hK.out _ _ ?_ (fun hHeld=>?_)
      ·exact kq_341 HSS fs
      clear hK K
      refine hd_tk (i:=18) (v:=?_) rfl ?_ ?_
      rotate_left
      ·(intro w hSw;(try dsimp only at hSw);go_simp;first|done|with_reducible rfl)
      refine hd_done (by kernel_rfl) ?_
      clear hHeld
      simp only[List.drop_succ_cons,List.drop_zero]
      go_wp2_with fail
      go_meet
      exact⟨_,_,_,_,_,_,_,_,_,_,rfl,rfl,rfl,((ra.set 0 _).set 1 _).set 2 _,ho.box ra,fs⟩
    case rest =>
     obtain⟨gp,a0,a1,a2,b0,b1,b2,c0,c1,c2,rfl,rfl,rfl,hrp,hpn,hfx⟩:=hcut
     obtain⟨w9,hwc⟩:∃ W,W=wc:=⟨_,rfl⟩
     rw[← hwc] at hrp hpn hfx ⊢
     have HFX:=Lib.hid (fstep HF.out hfx)
     have HROW9:=Lib.hid (HROW.out.keep hfx)
     have HIDS9:=Lib.hid (HIDS.out.keep hfx)
     have HPN:=Lib.hid hpn
     have x09:=fkeep hfx x0
     have p0:=hrp.cell (i:=0) rfl
     have p1:=hrp.cell (i:=1) rfl
     have p2:=hrp.cell (i:=2) rfl
     clear hrp hpn hfx hwc HSS HSV x0 HROW HIDS HPLX HBX hap
     cases rk
     ·have HNO:Hid (svTo P fm ds fit ord=none):=svTo_stop (j:=j+1) (by rw[HST.out];rw[svS_some,HS1.out];rfl)
      have hz:=HR2.out.keep HFX.out
      have y0:=hz.cell (i:=0) rfl
      have y1:=hz.cell (i:=1) rfl
      have y2:=hz.cell (i:=2) rfl
      have y3:=hz.cell (i:=3) rfl
      have y4:=hz.cell (i:=4) rfl
      have u0:=hz.frozen 0
      have u1:=hz.frozen 1
      have u2:=hz.frozen 2
      have u3:=hz.frozen 3
      have u4:=hz.frozen 4
      have hfin:=((((hz.set 0 (.slice none 0 0)).set 1 (.slice none 0 0)).set 2 (.slice none 0 0)).set 3 (.slice none 0 0)).set 4 (.int .i64 0)
      have k0:=hfin.cell (i:=0) rfl
      have k1:=hfin.cell (i:=1) rfl
      have k2:=hfin.cell (i:=2) rfl
      have k3:=hfin.cell (i:=3) rfl
      have k4:=hfin.cell (i:=4) rfl
      clear hz hfin
      go_wp2
      refine bodyPost_ret (v:=.tuple #[.agg #[.slice none 0 0,.slice none 0 0,.slice none 0 0,.slice none 0 0,.int .i64 0],.bool false]) (by simp[results,Tryz.results76,go_sem,k0,k1,k2,k3,k4]) rfl ?_
      unfold OutSa
      rw[svF_none HNO.out]
      exact⟨_,rfl,zeroSd_own _ _,fset (fset (fset (fset (fset (fstep HF2.out HFX.out) (by omega) _) (by omega) _) (by omega) _) (by omega) _) (by omega) _⟩
     ·have HYES:Hid (svTo P fm ds fit (ord.take (j+1))=some (rp,S.2.1.set i ri,S.2.2+if ri=0 then 1 else 0)):=by show _=_;rw[HST.out];rw[svS_some,HS1.out];rfl
      have c0':=HROW9.out.cell (i:=0) rfl
      have c1':=HROW9.out.cell (i:=1) rfl
      have c2':=HROW9.out.cell (i:=2) rfl
      have c3':=HROW9.out.cell (i:=3) rfl
      have c4':=HROW9.out.cell (i:=4) rfl
      have v0:=HROW9.out.frozen 0
      have v1:=HROW9.out.frozen 1
      have v2:=HROW9.out.frozen 2
      have v4:=HROW9.out.frozen 4
      have hids9:=HIDS9.out
      obtain⟨y,hy⟩:∃ y,(S.2.1.map iv)[i]?=some y:=⟨_,List.getElem?_eq_getElem (by rw[List.length_map,g3'];exact hil)⟩
      have ci:=hids9.cell hy
      have vi:=hids9.frozen i
      have hSl:S.2.1.length=n:=by rw[g3',HN.out]
      have hng:gi≠gb:=fun e=>hGg e.symm
      obtain⟨WB,hWB⟩:∃ W,W=((w9.setCell ⟨gb,0,none⟩ (.slice a0 a1 a2)).setCell ⟨gb,1,none⟩ (.slice b0 b1 b2)).setCell ⟨gb,2,none⟩ (.slice c0 c1 c2):=⟨_,rfl⟩
      obtain⟨WZ,hWZ⟩:∃ W,W=WB.drew:=⟨_,rfl⟩
      have hrowB:RowAt WB gb 42 [.slice a0 a1 a2,.slice b0 b1 b2,.slice c0 c1 c2,.slice (some ⟨gi,0,none⟩) S.2.1.length S.2.1.length,.int .i64 S.2.2]:=by rw[hWB];exact((HROW9.out.set 0 _).set 1 _).set 2 _
      have hidsB:RowAt WB gi 3 (S.2.1.map iv):=by rw[hWB];exact((HIDS9.out.setOther hng _).setOther hng _).setOther hng _
      have hplB:PlOwn WB wr.heap.size (.agg #[.slice a0 a1 a2,.slice b0 b1 b2,.slice c0 c1 c2]) rp:=by rw[hWB];exact((HPN.out.setOther hGl _).setOther hGl _).setOther hGl _
      have hfB:Fresh W2 WB:=by rw[hWB];exact fset (fset (fset HFX.out hgG _) hgG _) hgG _
      have hfz:Fresh WB WZ:=by rw[hWZ];exact fdrew (frefl _)
      obtain⟨WA,hWA⟩:∃ W,W=WZ.setCell ⟨gi,i,none⟩ (.int .i64 ri):=⟨_,rfl⟩
      have hrowA:RowAt WA gb 42 [.slice a0 a1 a2,.slice b0 b1 b2,.slice c0 c1 c2,.slice (some ⟨gi,0,none⟩) S.2.1.length S.2.1.length,.int .i64 S.2.2]:=by rw[hWA];exact(hrowB.keep hfz).setOther hGg _
      have hidsA:RowAt WA gi 3 ((S.2.1.set i ri).map iv):=by
       rw[hWA,List.map_set]
       exact(hidsB.keep hfz).set i _
      have hplA:PlOwn WA wr.heap.size (.agg #[.slice a0 a1 a2,.slice b0 b1 b2,.slice c0 c1 c2]) rp:=by rw[hWA];exact(hplB.keep hfz).setOther hgl _
      have hfA:Fresh W2 WA:=by rw[hWA];exact fset (fstep hfB hfz) hgi _
      have s3:=hrowB.cell (i:=3) rfl
      rw[hSl] at s3
      have sx:=fkeep hfB (fkeep HF2.out X00.out)
      have ciZ:=(hidsB.keep hfz).cell hy
      have viZ:=(hidsB.keep hfz).frozen i
      have HWB:=Lib.hid hWB
      have HWZ:=Lib.hid hWZ
      clear hrowB hidsB hplB hfB hfz hWB hWZ
      have HRA:=Lib.hid hrowA
      have HIA:=Lib.hid hidsA
      have HPA:=Lib.hid hplA
      have HFA:=Lib.hid hfA
      have HWA:=Lib.hid hWA
      have hwr2:W2.heap.size≤wr.heap.size:=HF.out.size
      have e4:=hrowA.cell (i:=4) rfl
      have ve:=hrowA.frozen 4
      clear hrowA hidsA hplA hfA hWA hids9 hy
      rw[hSl] at c3'
      by_cases hid:ri=0
      ·have g9:(ri == 0)=true:=by simp[hid]
       have HID:Hid ((if ri=0 then (1:Int) else 0)=1):=by show _=_;simp[hid]
       have w1:IntKind.i64.wrap (S.2.2+1)=S.2.2+1:=by rw[IntKind.wrap_i64] <;> omega
       clear hid
       go_upto_region 9 with fail
       rw[← HWB.out]
       refine hd_start (n:=8) (S:=fun w'=>w'.cell? ⟨gb,3,none⟩=some (.slice (some ⟨gi,0,none⟩) n n)∧w'.cell? ⟨bt,ot+j,none⟩=some (.int .i64 (i:Int))) (by kernel_rfl) (by kernel_rfl) ⟨fkeep (fdrew (frefl _)) s3,fkeep (fdrew (frefl _)) sx⟩ (fun hHeld=>?_)
       rw[← HWZ.out] at hHeld ⊢
       refine hd_tk (i:=0) (v:=?_) rfl ?_ ?_
       rotate_left
       ·(intro w hSw;(try dsimp only at hSw);go_simp;first|done|with_reducible rfl)
       refine hd_tk (i:=1) (v:=?_) rfl ?_ ?_
       rotate_left
       ·(intro w hSw;(try dsimp only at hSw);go_simp;first|done|with_reducible rfl)
       refine hd_tk (i:=2) (v:=?_) rfl ?_ ?_
       rotate_left
       ·(intro w hSw;(try dsimp only at hSw);go_simp;first|done|with_reducible rfl)
       refine hd_tk (i:=3) (v:=?_) rfl ?_ ?_
       rotate_left
       ·(intro w hSw;(try dsimp only at hSw);go_simp;first|done|with_reducible rfl)
       refine hd_tk (i:=4) (v:=?_) rfl ?_ ?_
       rotate_left
       ·(intro w hSw;(try dsimp only at hSw);go_simp;first|done|with_reducible rfl)
       refine hd_tk (i:=5) (v:=?_) rfl ?_ ?_
       rotate_left
       ·(intro w hSw;(try dsimp only at hSw);go_simp;first|done|with_reducible rfl)
       refine hd_tk (i:=6) (v:=?_) rfl ?_ ?_
       rotate_left
       ·(intro w hSw;(try dsimp only at hSw);go_simp;first|done|with_reducible rfl)
       refine hd_tk (i:=7) (v:=?_) rfl ?_ ?_
       rotate_left
       ·(intro w hSw;(try dsimp only at hSw);go_simp;first|done|with_reducible rfl)
       refine hd_done (by kernel_rfl) ?_
       clear hHeld
       simp only[List.drop_succ_cons,List.drop_zero]
       go_upto_region 10 with fail
       rw[← HWA.out]
       clear s3 sx ciZ viZ
       clear c0' c1' c2' c3' c4' v0 v1 v2 v4 ci vi
       go_wp2
       go_roundw
       case rel=>exact⟨j+1,_,hlt,by go_num,HYES,by rw[HID.out];exact⟨_,_,_,_,_,_,_,_,_,gi,wr.heap.size,by rw[List.length_set];exact HRA.out.set 4 _,hwr2,HPA.out.setOther hGl _,HIA.out.setOther hng _,hgi,hgG,fun _=>hgl⟩,fset HFA.out hgG _⟩
       case measure=>simp[intOf];omega
      ·have g9:(ri == 0)=false:=by simp[hid]
       have HID:Hid ((if ri=0 then (1:Int) else 0)=0):=by show _=_;simp[hid]
       have w1:IntKind.i64.wrap (S.2.2+1)=S.2.2+1:=by rw[IntKind.wrap_i64] <;> omega
       clear hid
       go_upto_region 9 with fail
       rw[← HWB.out]
       refine hd_start (n:=8) (S:=fun w'=>w'.cell? ⟨gb,3,none⟩=some (.slice (some ⟨gi,0,none⟩) n n)∧w'.cell? ⟨bt,ot+j,none⟩=some (.int .i64 (i:Int))) (by kernel_rfl) (by kernel_rfl) ⟨fkeep (fdrew (frefl _)) s3,fkeep (fdrew (frefl _)) sx⟩ (fun hHeld=>?_)
       rw[← HWZ.out] at hHeld ⊢
       refine hd_tk (i:=0) (v:=?_) rfl ?_ ?_
       rotate_left
       ·(intro w hSw;(try dsimp only at hSw);go_simp;first|done|with_reducible rfl)
       refine hd_tk (i:=1) (v:=?_) rfl ?_ ?_
       rotate_left
       ·(intro w hSw;(try dsimp only at hSw);go_simp;first|done|with_reducible rfl)
       refine hd_tk (i:=2) (v:=?_) rfl ?_ ?_
       rotate_left
       ·(intro w hSw;(try dsimp only at hSw);go_simp;first|done|with_reducible rfl)
       refine hd_tk (i:=3) (v:=?_) rfl ?_ ?_
       rotate_left
       ·(intro w hSw;(try dsimp only at hSw);go_simp;first|done|with_reducible rfl)
       refine hd_tk (i:=4) (v:=?_) rfl ?_ ?_
       rotate_left
       ·(intro w hSw;(try dsimp only at hSw);go_simp;first|done|with_reducible rfl)
       refine hd_tk (i:=5) (v:=?_) rfl ?_ ?_
       rotate_left
       ·(intro w hSw;(try dsimp only at hSw);go_simp;first|done|with_reducible rfl)
       refine hd_tk (i:=6) (v:=?_) rfl ?_ ?_
       rotate_left
       ·(intro w hSw;(try dsimp only at hSw);go_simp;first|done|with_reducible rfl)
       refine hd_tk (i:=7) (v:=?_) rfl ?_ ?_
       rotate_left
       ·(intro w hSw;(try dsimp only at hSw);go_simp;first|done|with_reducible rfl)
       refine hd_done (by kernel_rfl) ?_
       clear hHeld
       simp only[List.drop_succ_cons,List.drop_zero]
       go_upto_region 10 with fail
       rw[← HWA.out]
       clear s3 sx ciZ viZ
       clear c0' c1' c2' c3' c4' v0 v1 v2 v4 ci vi
       go_wp2
       go_roundw
       case rel=>exact⟨j+1,_,hlt,by go_num,HYES,by rw[HID.out,Int.add_zero];exact⟨_,_,_,_,_,_,_,_,_,gi,wr.heap.size,by rw[List.length_set];exact HRA.out,hwr2,HPA.out,HIA.out,hgi,hgG,fun _=>hgl⟩,HFA.out⟩
       case measure=>simp[intOf];omega
   ·have hltz:¬ (j:Int)<(ord.length:Int):=by omega
    have htk:ord.take j=ord:=List.take_of_length_le (by omega)
    have hTO:=HTO.out
    rw[htk] at hTO
    have HE:=Lib.hid (svF_some hTO)
    obtain⟨q',m',c',p',k',d',r',i',e',gi,bb2,hrow,hb2,hpl,hids,hgi,hgG,hap⟩:=hbox
    have d0:=hrow.cell (i:=0) rfl
    have d1:=hrow.cell (i:=1) rfl
    have d2:=hrow.cell (i:=2) rfl
    have d3:=hrow.cell (i:=3) rfl
    have d4:=hrow.cell (i:=4) rfl
    have hz:=HR2.out.keep hf
    have y0:=hz.cell (i:=0) rfl
    have y1:=hz.cell (i:=1) rfl
    have y2:=hz.cell (i:=2) rfl
    have y3:=hz.cell (i:=3) rfl
    have y4:=hz.cell (i:=4) rfl
    have u0:=hz.frozen 0
    have u1:=hz.frozen 1
    have u2:=hz.frozen 2
    have u3:=hz.frozen 3
    have u4:=hz.frozen 4
    have hfin:=((((hz.set 0 (.slice q' m' c')).set 1 (.slice p' k' d')).set 2 (.slice r' i' e')).set 3 (.slice (some ⟨gi,0,none⟩) S.2.1.length S.2.1.length)).set 4 (.int .i64 S.2.2)
    have k0:=hfin.cell (i:=0) rfl
    have k1:=hfin.cell (i:=1) rfl
    have k2:=hfin.cell (i:=2) rfl
    have k3:=hfin.cell (i:=3) rfl
    have k4:=hfin.cell (i:=4) rfl
    have hso:SdOwn wr w.heap.size (.agg #[.slice q' m' c',.slice p' k' d',.slice r' i' e',.slice (some ⟨gi,0,none⟩) S.2.1.length S.2.1.length,.int .i64 S.2.2]) S:=by
     refine⟨_,_,_,_,_,_,_,_,_,_,_,bb2,rfl,Nat.le_trans hsz hb2,hpl,Or.inr ⟨gi,[],rfl,Nat.le_trans hsz hgi,by rw[List.append_nil];exact hids⟩,?_⟩
     rcases Nat.eq_zero_or_pos j with hj0|hj0
     ·left
      apply List.eq_nil_of_length_eq_zero
      have:=HN.out
      omega
     ·exact Or.inr ⟨gi,rfl,hap hj0⟩
    have HSO:=Lib.hid hso
    have HZ:=Lib.hid hz
    have HFE:=Lib.hid (fstep HF2.out hf)
    clear hso hz hfin hrow hpl hids hf hTO htk HBX g3'
    go_wp2
    refine bodyPost_ret (v:=.tuple #[.agg #[.slice q' m' c',.slice p' k' d',.slice r' i' e',.slice (some ⟨gi,0,none⟩) S.2.1.length S.2.1.length,.int .i64 S.2.2],.bool true]) (by simp[results,Tryz.results76,go_sem,k0,k1,k2,k3,k4]) rfl ?_
    unfold OutSa
    rw[HE.out]
    exact⟨_,rfl,HSO.out.box HZ.out,fset (fset (fset (fset (fset HFE.out (by omega) _) (by omega) _) (by omega) _) (by omega) _) (by omega) _⟩
end Go.Proofs.YteckjlkhopkogaaGreat
