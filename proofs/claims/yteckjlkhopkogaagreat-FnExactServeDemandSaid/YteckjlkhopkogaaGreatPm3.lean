/- Contracts: a result that is a plan, compared, marked, asked again. -/
import Derived.Test.YteckjlkhopkogaaGreatPm2
namespace Go.Proofs.YteckjlkhopkogaaGreat
open Go.RowKit Go.PlainAid
def SmPl (P:PlanV):Prop:=PlSmall P∧P.lights.length ≤ 1024
def PlOwn (w:World) (base:Nat) (v:Value) (P:PlanV):Prop:=∃ q c p d r e,∃ l:List LL,v = .agg #[.slice q P.net.nodes.length c, .slice p P.net.fibers.length d, .slice r l.length e]∧Own w base 9 q (P.net.nodes.map Value.string)∧Own w base 163 p (P.net.fibers.flatMap fibC) ∧
 Own w base 94 r (l.flatMap llC)∧(∀ x ∈ l,Own w base 3 x.r.q (x.r.fibs.map iv))∧DistL l∧P.lights = l.map LL.val∧P.net.nodes.length ≤ c∧c ≤ 9223372036854775807∧l.length ≤ e∧e ≤ 9223372036854775807
def PlHeld (w:World) (lo hi:Nat) (v:Value) (P:PlanV):Prop:=∃ q c p d r e,∃ l:List LL,v = .agg #[.slice q P.net.nodes.length c, .slice p P.net.fibers.length d, .slice r l.length e]∧Held w lo hi 9 q (P.net.nodes.map Value.string)∧Held w lo hi 163 p (P.net.fibers.flatMap fibC) ∧
 Held w lo hi 94 r (l.flatMap llC)∧(∀ x ∈ l,Held w lo hi 3 x.r.q (x.r.fibs.map iv))∧DistL l∧P.lights = l.map LL.val∧P.net.nodes.length ≤ c∧c ≤ 9223372036854775807∧l.length ≤ e∧e ≤ 9223372036854775807
theorem PlOwn.keep {w w':World} {base:Nat} {v:Value} {P:PlanV} (h:PlOwn w base v P) (hb:Fresh w w'):PlOwn w' base v P:=by
 obtain ⟨q,c,p,d,r,e,l,h1,h2,h3,h4,h5,h6⟩:=h
 exact ⟨q,c,p,d,r,e,l,h1,h2.keep hb,h3.keep hb,h4.keep hb,fun x hx=>(h5 x hx).keep hb,h6⟩
theorem PlOwn.mono {w:World} {base base':Nat} {v:Value} {P:PlanV} (h:PlOwn w base v P) (hb:base' ≤ base):PlOwn w base' v P:=by
 obtain ⟨q,c,p,d,r,e,l,h1,h2,h3,h4,h5,h6⟩:=h
 exact ⟨q,c,p,d,r,e,l,h1,h2.mono hb,h3.mono hb,h4.mono hb,fun x hx=>(h5 x hx).mono hb,h6⟩
theorem PlOwn.held {w:World} {lo:Nat} {v:Value} {P:PlanV} (h:PlOwn w lo v P):PlHeld w lo w.heap.size v P:=by
 obtain ⟨q,c,p,d,r,e,l,h1,h2,h3,h4,h5,h6⟩:=h
 exact ⟨q,c,p,d,r,e,l,h1,h2.held,h3.held,h4.held,fun x hx=>(h5 x hx).held,h6⟩
theorem PlHeld.own {w:World} {lo hi:Nat} {v:Value} {P:PlanV} (h:PlHeld w lo hi v P):PlOwn w lo v P:=by
 obtain ⟨q,c,p,d,r,e,l,h1,h2,h3,h4,h5,h6⟩:=h
 exact ⟨q,c,p,d,r,e,l,h1,h2.1,h3.1,h4.1,fun x hx=>(h5 x hx).1,h6⟩
theorem PlHeld.keep {w w':World} {lo hi:Nat} {v:Value} {P:PlanV} (h:PlHeld w lo hi v P) (hb:Fresh w w'):PlHeld w' lo hi v P:=by
 obtain ⟨q,c,p,d,r,e,l,h1,h2,h3,h4,h5,h6⟩:=h
 exact ⟨q,c,p,d,r,e,l,h1,h2.keep hb,h3.keep hb,h4.keep hb,fun x hx=>(h5 x hx).keep hb,h6⟩
theorem PlHeld.wide {w:World} {lo hi lo' hi':Nat} {v:Value} {P:PlanV} (h:PlHeld w lo hi v P) (hl:lo' ≤ lo) (hh:hi ≤ hi'):PlHeld w lo' hi' v P:=by
 obtain ⟨q,c,p,d,r,e,l,h1,h2,h3,h4,h5,h6⟩:=h
 exact ⟨q,c,p,d,r,e,l,h1,h2.wide hl hh,h3.wide hl hh,h4.wide hl hh,fun x hx=>(h5 x hx).wide hl hh,h6⟩
theorem PlHeld.mk {T:TypeId→Prop} {lo hi lo' hi':Nat} {w w':World} {v:Value} {P:PlanV} (h:PlHeld w lo hi v P) (hb:Mk T lo' hi' w w') (hd:hi ≤ lo' ∨ hi' ≤ lo):PlHeld w' lo hi v P:=by
 obtain ⟨q,c,p,d,r,e,l,h1,h2,h3,h4,h5,h6⟩:=h
 exact ⟨q,c,p,d,r,e,l,h1,h2.mk hb hd,h3.mk hb hd,h4.mk hb hd,fun x hx=>(h5 x hx).mk hb hd,h6⟩
theorem PlHeld.below {lo hi base:Nat} {w w':World} {v:Value} {P:PlanV} (h:PlHeld w lo hi v P) (hb:Below base w w') (hd:hi ≤ base):PlHeld w' lo hi v P:=by
 obtain ⟨q,c,p,d,r,e,l,h1,h2,h3,h4,h5,h6⟩:=h
 exact ⟨q,c,p,d,r,e,l,h1,h2.below hb hd,h3.below hb hd,h4.below hb hd,fun x hx=>(h5 x hx).below hb hd,h6⟩
theorem lts_small {l:List LL} {P:PlanV} (h:P.lights = l.map LL.val) (hs:PlSmall P):LtsSmall l:=by
 obtain ⟨_,h1,h2⟩:=hs
 rw [h] at h1 h2
 exact ⟨by simpa using h1,fun x hx=>h2 x.val (List.mem_map_of_mem hx)⟩
theorem PlOwn.plIn {w:World} {base:Nat} {v:Value} {P:PlanV} (h:PlOwn w base v P) (hs:PlSmall P):PlIn w v P:=by
 obtain ⟨q,c,p,d,r,e,l,h1,h2,h3,h4,h5,h6,h7,h8,h9,h10,h11⟩:=h
 exact ⟨q,_,c,p,_,d,r,e,l,h1,⟨q,c,p,d,rfl,h2.cells,h3.cells,hs.1.1.1,hs.1.2,h8,h9,hs.1.1.2⟩,⟨h4.cells,fun x hx=>(h5 x hx).ints⟩,lts_small h7 hs,h7,h10,h11⟩
theorem eqPl_r (v v':Value) (lo hi lo' hi':Nat) (P:PlanV) (w:World) (h:PlHeld w lo hi v P) (h':PlHeld w lo' hi' v' P) (hs:SmPl P) :
  Calls Tryz.prog 13 #[v,v'] w fun e w'=>e = .returned (.bool true)∧Fresh w w':=eqPlan_k v v' P w (h.own.plIn hs.1) (h'.own.plIn hs.1)
def PlMk (w:World) (base:Nat) (k0:Int) (N:Nat) (v:Value) (P:PlanV):Prop:=∃ q c p d r e,∃ l:List LL,v = .agg #[.slice q P.net.nodes.length c, .slice p P.net.fibers.length d, .slice r l.length e]∧MkRow w base 9 q P.net.nodes.length (fun t=>.string (mtxt (k0 + (t:Int)))) ∧
 MkRow w base 163 p (P.net.fibers.length * 4) (fun t=>iv (k0 + P.net.nodes.length + (t:Int)))∧LtMk w base (k0 + P.net.nodes.length + 4 * P.net.fibers.length) r l∧P.lights = l.map LL.val∧N = P.net.nodes.length + 4 * P.net.fibers.length + ltN l l.length
theorem PlMk.keep {w w':World} {base:Nat} {k0:Int} {N:Nat} {v:Value} {P:PlanV} (h:PlMk w base k0 N v P) (hb:Fresh w w'):PlMk w' base k0 N v P:=by
 obtain ⟨q,c,p,d,r,e,l,h1,h2,h3,h4,h5⟩:=h
 exact ⟨q,c,p,d,r,e,l,h1,h2.keep hb,h3.keep hb,h4.keep hb,h5⟩
set_option maxHeartbeats 1000000 in
theorem markNetwork_p (q p:Option Addr) (c d nn nf base:Nat) (k0:Int) (w:World) (hq:RowN w base 9 q nn) (hp:RowN w base 163 p (nf * 4)) (hbs:base ≤ w.heap.size) (h1:nn ≤ 1048576) (h2:nf ≤ 1048576) (h0:0 ≤ k0) (h3:k0 ≤ 1024) :
  Calls Tryz.prog 60 #[.agg #[.slice q nn c, .slice p nf d], .int .i64 k0] w fun e w'=>e = .returned (.int .i64 (k0 + nn + 4 * nf))∧MkRow w' base 9 q nn (fun t=>.string (mtxt (k0 + (t:Int))))∧MkRow w' base 163 p (nf * 4) (fun t=>iv (k0 + nn + (t:Int))) ∧
   Below base w w'∧(∀ g t cs,RowAt w g t cs→t ≠ 9→t ≠ 163→RowAt w' g t cs):=by
 obtain ⟨W1,hW1⟩:∃ W1,W1 = w.alloc (.cells #[.slice q nn c, .slice p nf d] 35):=⟨_,rfl⟩
 have hf:Fresh w W1:=by rw [hW1]; exact fnew (frefl _) _
 have hr:RowAt W1 w.heap.size 35 [.slice q nn c, .slice p nf d]:=by rw [hW1]; exact RowAt.new _ _ _
 have HF:=Lib.hid hf
 have HR:=Lib.hid hr
 have HW:=Lib.hid hW1
 have hbs1:base ≤ W1.heap.size:=Nat.le_trans hbs hf.size
 have k1:RowN W1 base 9 q nn:=by
  rcases hq with h | ⟨g,cs,a1,a2,a3,a4⟩
  ·exact Or.inl h
  ·exact Or.inr ⟨g,cs,a1,a2,a3.keep hf,a4⟩
 have k2:RowN W1 base 163 p (nf * 4):=by
  rcases hp with h | ⟨g,cs,a1,a2,a3,a4⟩
  ·exact Or.inl h
  ·exact Or.inr ⟨g,cs,a1,a2,a3.keep hf,a4⟩
 have HP:=Lib.hid k2
 have HC:=Lib.hid (markStringS_p q c nn base k0 W1 k1 hbs1 h1 h0 (by omega))
 clear hW1 hf hr hq hp k1 k2
 go_enter Tryz.func60,Tryz.ntmps60
 go_wp2_with fail
 rw [← HW.out]
 refine (HC.out).mono ?_
 rintro e w1 ⟨rfl,hm1,hi1,hk1⟩
 have HM1:=Lib.hid hm1
 have HK1:=Lib.hid hk1
 have d1:=(hk1.row _ _ _ HR.out (by decide)).cell (i:=1) rfl
 have HC2:=Lib.hid (markFiberS_p p d nf base (k0 + nn) w1 (HP.out.typ hk1 (by decide)) h2 (by omega) (by omega))
 clear hm1 hk1
 go_wp2_with fail
 refine (HC2.out).mono ?_
 rintro e w2 ⟨rfl,hm2,hi2,hk2⟩
 have HM2:=Lib.hid hm2
 have HK2:=Lib.hid hk2
 clear hm2 hk2 d1
 go_wp2
 go_ret
 exact ⟨rfl,HM1.out.typ HK2.out (by decide),HM2.out,(HF.out.mono hbs).trans (HK1.out.low.trans HK2.out.low),fun g t cs h n1 n2=>HK2.out.row _ _ _ (HK1.out.row _ _ _ (h.keep HF.out) n1) n2⟩
set_option maxHeartbeats 1000000 in
theorem markPl_r (v:Value) (base:Nat) (P:PlanV) (k0:Int) (w:World) (h:PlOwn w base v P) (hbs:base ≤ w.heap.size) (hs:SmPl P) (h0:0 ≤ k0) (h1:k0 ≤ 1024) :
  Calls Tryz.prog 16 #[v, .int .i64 k0] w fun e w'=>∃ N:Nat,e = .returned (.int .i64 (k0 + N))∧PlMk w' base k0 N v P∧Below base w w'∧∀ g t cs,RowAt w g t cs→t ≠ 9→t ≠ 163→t ≠ 94→t ≠ 3→RowAt w' g t cs:=by
 obtain ⟨q,c,p,d,r,e,l,rfl,o1,o2,o3,o4,o5,o6,_⟩:=h
 have hls:=lts_small o6 hs.1
 have hnn:=hs.1.1.1.1
 have hnf:=hs.1.1.2
 obtain ⟨nn,hnn0⟩:∃ nn,nn = P.net.nodes.length:=⟨_,rfl⟩
 obtain ⟨nf,hnf0⟩:∃ nf,nf = P.net.fibers.length:=⟨_,rfl⟩
 have r1:=o1.rowN
 have r2:=o2.rowN
 rw [List.length_map,← hnn0] at r1
 rw [flat_len fibC 4 (fun _=>rfl),← hnf0] at r2
 rw [← hnn0] at hnn
 rw [← hnf0] at hnf
 rw [← hnn0,← hnf0]
 obtain ⟨W1,hW1⟩:∃ W1,W1 = w.alloc (.cells #[.slice q nn c, .slice p nf d, .slice r l.length e] 38):=⟨_,rfl⟩
 have hf:Fresh w W1:=by rw [hW1]; exact fnew (frefl _) _
 have hr:RowAt W1 w.heap.size 38 [.slice q nn c, .slice p nf d, .slice r l.length e]:=by rw [hW1]; exact RowAt.new _ _ _
 have HF:=Lib.hid hf
 have HR:=Lib.hid hr
 have HW:=Lib.hid hW1
 have hbs1:base ≤ W1.heap.size:=Nat.le_trans hbs hf.size
 have k1:RowN W1 base 9 q nn:=by
  rcases r1 with h | ⟨g,cs,a1,a2,a3,a4⟩
  ·exact Or.inl h
  ·exact Or.inr ⟨g,cs,a1,a2,a3.keep hf,a4⟩
 have k2:RowN W1 base 163 p (nf * 4):=by
  rcases r2 with h | ⟨g,cs,a1,a2,a3,a4⟩
  ·exact Or.inl h
  ·exact Or.inr ⟨g,cs,a1,a2,a3.keep hf,a4⟩
 have HO3:=Lib.hid (o3.keep hf)
 have HO4:Hid (∀ x ∈ l,Own W1 base 3 x.r.q (x.r.fibs.map iv)):=fun x hx=>(o4 x hx).keep hf
 have HD:=Lib.hid o5
 have HV:=Lib.hid o6
 have HLS:=Lib.hid hls
 have HNN:=Lib.hid hnn0
 have HNF:=Lib.hid hnf0
 have HC:=Lib.hid (markNetwork_p q p c d nn nf base k0 W1 k1 k2 hbs1 hnn hnf h0 h1)
 clear hW1 hf hr o1 o2 o3 o4 o5 o6 r1 r2 k1 k2 hls hnn0 hnf0
 go_enter Tryz.func16,Tryz.ntmps16
 go_wp2_with fail
 rw [← HW.out]
 refine (HC.out).mono ?_
 rintro e1 w1 ⟨rfl,hm1,hm2,hb1,hk1⟩
 have HM1:=Lib.hid hm1
 have HM2:=Lib.hid hm2
 have HB1:=Lib.hid hb1
 have HK1:=Lib.hid hk1
 have d2:=(hk1 _ _ _ HR.out (by decide) (by decide)).cell (i:=2) rfl
 have hown:Own w1 base 94 r (l.flatMap llC):=by
  rcases HO3.out with h | ⟨g,sp,a1,a2,a3⟩
  ·exact Or.inl h
  ·exact Or.inr ⟨g,sp,a1,a2,hk1 _ _ _ a3 (by decide) (by decide)⟩
 have hrn:∀ x ∈ l,RowN w1 base 3 x.r.q x.r.fibs.length:=by
  intro x hx
  have h:=HO4.out x hx
  have h2:Own w1 base 3 x.r.q (x.r.fibs.map iv):=by
   rcases h with h | ⟨g,sp,a1,a2,a3⟩
   ·exact Or.inl h
   ·exact Or.inr ⟨g,sp,a1,a2,hk1 _ _ _ a3 (by decide) (by decide)⟩
  have h3:=h2.rowN
  rw [List.length_map] at h3
  exact h3
 have HC2:=Lib.hid (markLightS_p r e base l (k0 + nn + 4 * nf) w1 hown hrn HD.out HLS.out (by omega) (by omega))
 clear hm1 hm2 hb1 hk1 hown hrn HC
 go_wp2_with fail
 refine (HC2.out).mono ?_
 rintro e2 w2 ⟨rfl,hl2,hb2,hk2⟩
 have HL2:=Lib.hid hl2
 have HB2:=Lib.hid hb2
 have HK2:=Lib.hid hk2
 clear hl2 hb2 hk2 d2
 go_wp2
 go_ret
 have e3:MkRow w2 base 9 q nn (fun t=>.string (mtxt (k0 + (t:Int)))):=by
  rcases HM1.out with h | ⟨g,cs,a1,a2,a3,a4⟩
  ·exact Or.inl h
  ·exact Or.inr ⟨g,cs,a1,a2,HK2.out _ _ _ a3 (by decide) (by decide),a4⟩
 have e4:MkRow w2 base 163 p (nf * 4) (fun t=>iv (k0 + nn + (t:Int))):=by
  rcases HM2.out with h | ⟨g,cs,a1,a2,a3,a4⟩
  ·exact Or.inl h
  ·exact Or.inr ⟨g,cs,a1,a2,HK2.out _ _ _ a3 (by decide) (by decide),a4⟩
 refine ⟨nn + 4 * nf + ltN l l.length,?_,⟨q,c,p,d,r,e,l,?_,?_,?_,?_,HV.out,?_⟩,(HF.out.mono hbs).trans (HB1.out.trans HB2.out),fun g t cs h n1 n2 n3 n4=>HK2.out _ _ _ (HK1.out _ _ _ (h.keep HF.out) n1 n2) n4 n3⟩
 ·exact ret_int (by omega)
 ·rw [← HNN.out,← HNF.out]
 ·rw [← HNN.out]; exact e3
 ·rw [← HNF.out,← HNN.out]; exact e4
 ·rw [← HNN.out,← HNF.out]; exact HL2.out
 ·rw [← HNN.out,← HNF.out]
set_option maxHeartbeats 1000000 in
theorem heldPl_o (v:Value) (base:Nat) (P:PlanV) (k0:Int) (N:Nat) (w:World) (h:PlMk w base k0 N v P) (hs:SmPl P) (h0:0 ≤ k0) (h1:k0 ≤ 1024) :
  Calls Tryz.prog 17 #[v, .int .i64 k0] w fun e w'=>e = .returned (.int .i64 (k0 + N))∧Fresh w w':=by
 obtain ⟨q,c,p,d,r,e,l,rfl,m1,m2,m3,hv,hN⟩:=h
 have hls:=lts_small hv hs.1
 have hl24:l.length ≤ 1024:=by have:=hs.2; rw [hv] at this; simpa using this
 have hnn:=hs.1.1.1.1
 have hnf:=hs.1.1.2
 obtain ⟨nn,hnn0⟩:∃ nn,nn = P.net.nodes.length:=⟨_,rfl⟩
 obtain ⟨nf,hnf0⟩:∃ nf,nf = P.net.fibers.length:=⟨_,rfl⟩
 rw [← hnn0] at hnn m1 m2 m3 hN ⊢
 rw [← hnf0] at hnf m2 m3 hN ⊢
 have HNV:=Lib.hid hN
 have HM1:=Lib.hid m1
 have HM2:=Lib.hid m2
 have HM3:=Lib.hid m3
 have HLS:=Lib.hid hls
 obtain ⟨W1,hW1⟩:∃ W1,W1 = w.alloc (.cells #[.slice q nn c, .slice p nf d, .slice r l.length e] 38):=⟨_,rfl⟩
 have hf:Fresh w W1:=by rw [hW1]; exact fnew (frefl _) _
 have hr:RowAt W1 w.heap.size 38 [.slice q nn c, .slice p nf d, .slice r l.length e]:=by rw [hW1]; exact RowAt.new _ _ _
 have HF:=Lib.hid hf
 have HR:=Lib.hid hr
 have HW:=Lib.hid hW1
 clear hnn0 hnf0
 have HCN:Hid (∀ W,Fresh w W→Calls Tryz.prog 61 #[.agg #[.slice q nn c, .slice p nf d], .int .i64 k0] W fun e w'=>e = .returned (.int .i64 (k0 + nn + 4 * nf))∧Fresh W w'):=by
  intro W hW
  obtain ⟨W2,hW2⟩:∃ W2,W2 = W.alloc (.cells #[.slice q nn c, .slice p nf d] 35):=⟨_,rfl⟩
  have hf2:Fresh W W2:=by rw [hW2]; exact fnew (frefl _) _
  have hr2:RowAt W2 W.heap.size 35 [.slice q nn c, .slice p nf d]:=by rw [hW2]; exact RowAt.new _ _ _
  have HF2:=Lib.hid hf2
  have HR2:=Lib.hid hr2
  have HW2:=Lib.hid hW2
  have HHW:=Lib.hid hW
  have hn1:(k0 + (nn:Int) < 0) = False:=eq_false (by omega)
  have hn2:(k0 + (nn:Int) + 4 * (nf:Int) < 0) = False:=eq_false (by omega)
  clear hf2 hr2 hW2 hW hW1 hf hr
  go_enter Tryz.func61,Tryz.ntmps61
  go_wp2_with fail
  rw [← HW2.out]
  refine (heldStringS_p q c nn base k0 W2 (HM1.out.keep (fstep HHW.out HF2.out)) hnn h0 (by omega)).mono ?_
  rintro e w1 ⟨rfl,hb⟩
  have d1:=(HR2.out.keep hb).cell (i:=1) rfl
  have HB:=Lib.hid (fstep HF2.out hb)
  clear hb
  go_wp2_with fail
  refine (heldFiberS_p p d nf base (k0 + nn) w1 (HM2.out.keep (fstep HHW.out HB.out)) hnf (by omega) (by omega)).mono ?_
  rintro e w2 ⟨rfl,rfl⟩
  go_wp2
  go_ret
  exact ⟨rfl,HB.out⟩
 have hn2:(k0 + (nn:Int) + 4 * (nf:Int) < 0) = False:=eq_false (by omega)
 have hn3:(k0 + (nn:Int) + 4 * (nf:Int) + (ltN l l.length:Int) < 0) = False:=eq_false (by omega)
 have HC2:Hid (∀ W,Fresh w W→Calls Tryz.prog 29 #[.slice r l.length e, .int .i64 (k0 + nn + 4 * nf)] W fun e w'=>e = .returned (.int .i64 (k0 + nn + 4 * nf + ltN l l.length))∧Fresh W w') :=
  fun W hW=>heldLightS_p r e base l (k0 + nn + 4 * nf) W (HM3.out.keep hW) HLS.out hl24 (by omega) (by omega)
 clear hW1 hf hr m1 m2 m3 hv hN hls
 go_enter Tryz.func17,Tryz.ntmps17
 go_wp2_with fail
 rw [← HW.out]
 refine (HCN.out _ HF.out).mono ?_
 rintro e1 w1 ⟨rfl,hb⟩
 have d2:=(HR.out.keep hb).cell (i:=2) rfl
 have HB:=Lib.hid (fstep HF.out hb)
 clear hb
 go_wp2_with fail
 refine (HC2.out _ HB.out).mono ?_
 rintro e2 w2 ⟨rfl,hb⟩
 have HB2:=Lib.hid (fstep HB.out hb)
 clear hb d2
 go_wp2
 go_ret
 exact ⟨ret_int (by rw [HNV.out]; omega),HB2.out⟩
end Go.Proofs.YteckjlkhopkogaaGreat
