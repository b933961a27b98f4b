/- Texts of mine laid together (Sdv, SvP, Sv0). -/
import Derived.Test.YteckjlkhopkogaaGreatU4
import Derived.Test.YteckjlkhopkogaaGreatM13
import Derived.Test.YteckjlkhopkogaaGreatKLs
namespace Go.Proofs.YteckjlkhopkogaaGreat
open Go.RowKit Go.PlainAid
abbrev SdV:=PlanV × List Int × Int
def SdIn (w:World) (v:Value) (S:SdV):Prop:=∃ q m c p k d r i e t y,v=.agg #[.slice q m c,.slice p k d,.slice r i e,.slice t S.2.1.length y,.int .i64 S.2.2]∧PlIn w (.agg #[.slice q m c,.slice p k d,.slice r i e]) S.1∧Ints w t S.2.1∧S.2.1.length≤1048576
def dFib:Fib:=⟨0,0,0,0⟩
def sv1 (fm:List (Int × Int)) (ds:List Fib) (fit:Int) (S:SdV) (i:Int):PlanV × Int × Bool:=serveF S.1 fm (ds.getD i.toNat dFib) fit
def svS (fm:List (Int × Int)) (ds:List Fib) (fit:Int):Option SdV→Int→Option SdV
 | none,_=>none
 | some S,i=>if (sv1 fm ds fit S i).2.2=true then some ((sv1 fm ds fit S i).1,S.2.1.set i.toNat (sv1 fm ds fit S i).2.1,S.2.2+if (sv1 fm ds fit S i).2.1=0 then 1 else 0) else none
def svTo (P:PlanV) (fm:List (Int × Int)) (ds:List Fib) (fit:Int) (l:List Int):Option SdV:=l.foldl (svS fm ds fit) (some (P,List.replicate ds.length 0,0))
theorem svS_some (fm:List (Int × Int)) (ds:List Fib) (fit:Int) (S:SdV) (i:Int):svS fm ds fit (some S) i=if (sv1 fm ds fit S i).2.2=true then some ((sv1 fm ds fit S i).1,S.2.1.set i.toNat (sv1 fm ds fit S i).2.1,S.2.2+if (sv1 fm ds fit S i).2.1=0 then 1 else 0) else none:=rfl
theorem svTo_nil (P:PlanV) (fm:List (Int × Int)) (ds:List Fib) (fit:Int):svTo P fm ds fit []=some (P,List.replicate ds.length 0,0):=rfl
theorem svTo_snoc (P:PlanV) (fm:List (Int × Int)) (ds:List Fib) (fit:Int) (l:List Int) (i:Int):svTo P fm ds fit (l++[i])=svS fm ds fit (svTo P fm ds fit l) i:=by unfold svTo;rw[List.foldl_append];rfl
theorem svS_none (fm:List (Int × Int)) (ds:List Fib) (fit:Int):∀ l:List Int,l.foldl (svS fm ds fit) none=none
 | []=>rfl
 | _ :: l=>svS_none fm ds fit l
theorem svTo_stop {P:PlanV} {fm:List (Int × Int)} {ds:List Fib} {fit:Int} {l:List Int} {j:Nat} (h:svTo P fm ds fit (l.take j)=none):svTo P fm ds fit l=none:=by
 have e:svTo P fm ds fit (l.take j++l.drop j)=none:=by
  unfold svTo at h ⊢
  rw[List.foldl_append,h,svS_none]
 rwa [List.take_append_drop] at e
def svF (P:PlanV) (fm:List (Int × Int)) (ds:List Fib) (fit:Int) (l:List Int):SdV × Bool:=match svTo P fm ds fit l with|some S=>(S,true)|none=>((zeroP,[],0),false)
theorem svF_some {P:PlanV} {fm:List (Int × Int)} {ds:List Fib} {fit:Int} {l:List Int} {S:SdV} (h:svTo P fm ds fit l=some S):svF P fm ds fit l=(S,true):=by unfold svF;rw[h]
theorem svF_none {P:PlanV} {fm:List (Int × Int)} {ds:List Fib} {fit:Int} {l:List Int} (h:svTo P fm ds fit l=none):svF P fm ds fit l=((zeroP,[],0),false):=by unfold svF;rw[h]
theorem svTo_good {P:PlanV} (hp:planB P=true) (fm:List (Int × Int)) (ds:List Fib) (fit:Int):∀ l:List Int,∀ S,svTo P fm ds fit l=some S→planB S.1=true∧S.1.net=P.net∧S.2.1.length=ds.length∧0≤S.2.2∧S.2.2≤(l.length:Int):=by
 refine snocInd (P:=fun l=>∀ S,svTo P fm ds fit l=some S→planB S.1=true∧S.1.net=P.net∧S.2.1.length=ds.length∧0≤S.2.2∧S.2.2≤(l.length:Int)) ?_ ?_
 ·intro S h
  rw[svTo_nil] at h
  cases h
  exact⟨hp,rfl,by simp,Int.le_refl _,by simp⟩
 ·intro l i ih S h
  rw[svTo_snoc] at h
  cases e:svTo P fm ds fit l with
  | none=>rw[e] at h;cases h
  | some T =>
   rw[e] at h
   obtain⟨a1,a2,a3,a4,a5⟩:=ih T e
   have h':(if (sv1 fm ds fit T i).2.2=true then some ((sv1 fm ds fit T i).1,T.2.1.set i.toNat (sv1 fm ds fit T i).2.1,T.2.2+if (sv1 fm ds fit T i).2.1=0 then 1 else 0) else none)=some S:=h
   by_cases hok:(sv1 fm ds fit T i).2.2=true
   ·rw[if_pos hok] at h'
    cases h'
    obtain⟨b1,b2⟩:=serve_good a1 fm (ds.getD i.toNat dFib) fit hok
    refine⟨b1,by show(serveF T.1 fm _ fit).1.net=_;rw[b2,a2],by show(T.2.1.set _ _).length=_;rw[List.length_set,a3],?_,?_⟩
    ·show 0≤T.2.2+_;split <;> omega
    ·show T.2.2+_≤_;rw[List.length_append];simp only[List.length_singleton];split <;> omega
   ·rw[if_neg hok] at h';cases h'
def SdOwn (w:World) (base:Nat) (v:Value) (S:SdV):Prop:=∃ q m c p k d r i e t y b2,v=.agg #[.slice q m c,.slice p k d,.slice r i e,.slice t S.2.1.length y,.int .i64 S.2.2]∧base≤b2∧PlOwn w b2 (.agg #[.slice q m c,.slice p k d,.slice r i e]) S.1∧Own w base 3 t (S.2.1.map iv)∧(S.2.1=[]∨∃ g,t=some ⟨g,0,none⟩∧g<b2)
theorem PlOwn.setOther {w:World} {base:Nat} {v:Value} {P:PlanV} (h:PlOwn w base v P) {b o:Nat} (hb:b<base) (u:Value):PlOwn (w.setCell ⟨b,o,none⟩ u) base v P:=by
 obtain⟨q,c,p,d,r,e,l,h1,h2,h3,h4,h5,h6⟩:=h
 exact⟨q,c,p,d,r,e,l,h1,h2.setOther hb u,h3.setOther hb u,h4.setOther hb u,fun x hx=>(h5 x hx).setOther hb u,h6⟩
theorem SdOwn.mono {w:World} {base base':Nat} {v:Value} {S:SdV} (h:SdOwn w base v S) (hb:base'≤base):SdOwn w base' v S:=by
 obtain⟨q,m,c,p,k,d,r,i,e,t,y,b2,h1,h2,h3,h4,h5⟩:=h
 exact⟨q,m,c,p,k,d,r,i,e,t,y,b2,h1,Nat.le_trans hb h2,h3,h4.mono hb,h5⟩
theorem SdOwn.shape {w:World} {base:Nat} {v:Value} {S:SdV} (h:SdOwn w base v S):∃ q m c p k d r i e t n y b,v=.agg #[.slice q m c,.slice p k d,.slice r i e,.slice t n y,.int .i64 b]:=by
 obtain⟨q,m,c,p,k,d,r,i,e,t,y,b2,h1,_⟩:=h
 exact⟨_,_,_,_,_,_,_,_,_,_,_,_,_,h1⟩
theorem SdOwn.setS {w:World} {base g:Nat} {v:Value} {S:SdV} {cs:List Value} (h:SdOwn w base v S) (hr:RowAt w g 42 cs) (i:Nat) (u:Value):SdOwn (w.setCell ⟨g,i,none⟩ u) base v S:=by
 obtain⟨q,m,c,p,k,d,r,i',e,t,y,b2,h1,h2,h3,h4,h5⟩:=h
 obtain⟨q',c',p',d',r',e',l,k1,k2,k3,k4,k5,k6⟩:=h3
 exact⟨q,m,c,p,k,d,r,i',e,t,y,b2,h1,h2,⟨q',c',p',d',r',e',l,k1,k2.setO hr (by decide) _ _,k3.setO hr (by decide) _ _,k4.setO hr (by decide) _ _,fun x hx=>(k5 x hx).setO hr (by decide) _ _,k6⟩,h4.setO hr (by decide) _ _,h5⟩
theorem SdOwn.box {w:World} {base g:Nat} {v a b c d e:Value} {S:SdV} (h:SdOwn w base v S) {x0 x1 x2 x3 x4:Value} (hr:RowAt w g 42 [x0,x1,x2,x3,x4]) :
  SdOwn (((((w.setCell ⟨g,0,none⟩ a).setCell ⟨g,1,none⟩ b).setCell ⟨g,2,none⟩ c).setCell ⟨g,3,none⟩ d).setCell ⟨g,4,none⟩ e) base v S :=
 ((((h.setS hr _ _).setS (hr.set 0 _) _ _).setS ((hr.set 0 _).set 1 _) _ _).setS (((hr.set 0 _).set 1 _).set 2 _) _ _).setS ((((hr.set 0 _).set 1 _).set 2 _).set 3 _) _ _
theorem zeroSd_own (w:World) (base:Nat):SdOwn w base (.agg #[.slice none 0 0,.slice none 0 0,.slice none 0 0,.slice none 0 0,.int .i64 0]) (zeroP,[],0) :=
 ⟨none,0,0,none,0,0,none,0,0,none,0,base,rfl,Nat.le_refl _,zeroP_own _ _,Or.inl ⟨rfl,rfl⟩,Or.inl rfl⟩
theorem svTo_small {P:PlanV} (hp:planB P=true) (hs:PlSmall P) (fm:List (Int × Int)) (ds:List Fib) (fit:Int):∀ l:List Int,∀ S,svTo P fm ds fit l=some S→PlSmall S.1:=by
 refine snocInd (P:=fun l=>∀ S,svTo P fm ds fit l=some S→PlSmall S.1) ?_ ?_
 ·intro S h
  rw[svTo_nil] at h
  cases h
  exact hs
 ·intro l i ih S h
  rw[svTo_snoc] at h
  cases e:svTo P fm ds fit l with
  | none=>rw[e] at h;cases h
  | some T =>
   rw[e] at h
   obtain⟨a1,_⟩:=svTo_good hp fm ds fit l T e
   have h':(if (sv1 fm ds fit T i).2.2=true then some ((sv1 fm ds fit T i).1,T.2.1.set i.toNat (sv1 fm ds fit T i).2.1,T.2.2+if (sv1 fm ds fit T i).2.1=0 then 1 else 0) else none)=some S:=h
   by_cases hok:(sv1 fm ds fit T i).2.2=true
   ·rw[if_pos hok] at h'
    cases h'
    exact(serveF_small a1 fm _ fit (ih T e)).1
   ·rw[if_neg hok] at h';cases h'
def SdBox (w:World) (base G:Nat) (S:SdV) (j:Nat):Prop:=∃ q m c p k d r i e g2 b2,RowAt w G 42 [.slice q m c,.slice p k d,.slice r i e,.slice (some ⟨g2,0,none⟩) S.2.1.length S.2.1.length,.int .i64 S.2.2]∧base≤b2∧PlOwn w b2 (.agg #[.slice q m c,.slice p k d,.slice r i e]) S.1∧RowAt w g2 3 (S.2.1.map iv)∧base≤g2∧base≤G∧(0<j→g2<b2)
def OutSa (P:PlanV) (fm:List (Int × Int)) (ds:List Fib) (fit:Int) (ord:List Int) (w:World) (e:Ending) (w':World):Prop:=∃ v',e=.returned (.tuple #[v',.bool (svF P fm ds fit ord).2])∧SdOwn w' w.heap.size v' (svF P fm ds fit ord).1∧Fresh w w'
theorem kq_3 {w1 w2:World} {a:Nat} {u0 u1 u2:Value} (h:w1.cell? ⟨a,0,none⟩=some u0∧w1.cell? ⟨a,1,none⟩=some u1∧w1.cell? ⟨a,2,none⟩=some u2) (hb:Fresh w1 w2):w2.cell? ⟨a,0,none⟩=some u0∧w2.cell? ⟨a,1,none⟩=some u1∧w2.cell? ⟨a,2,none⟩=some u2 :=
 ⟨fkeep hb h.1,fkeep hb h.2.1,fkeep hb h.2.2⟩
theorem kq_341 {w1 w2:World} {a b o c i:Nat} {u0 u1 u2 v0 v1 v2 v3 x0:Value} (h:w1.cell? ⟨a,0,none⟩=some u0∧w1.cell? ⟨a,1,none⟩=some u1∧w1.cell? ⟨a,2,none⟩=some u2∧w1.cell? ⟨b,o,none⟩=some v0∧w1.cell? ⟨b,o+1,none⟩=some v1∧w1.cell? ⟨b,o+2,none⟩=some v2∧w1.cell? ⟨b,o+3,none⟩=some v3∧w1.cell? ⟨c,i,none⟩=some x0) (hb:Fresh w1 w2) :
  w2.cell? ⟨a,0,none⟩=some u0∧w2.cell? ⟨a,1,none⟩=some u1∧w2.cell? ⟨a,2,none⟩=some u2∧w2.cell? ⟨b,o,none⟩=some v0∧w2.cell? ⟨b,o+1,none⟩=some v1∧w2.cell? ⟨b,o+2,none⟩=some v2∧w2.cell? ⟨b,o+3,none⟩=some v3∧w2.cell? ⟨c,i,none⟩=some x0 :=
 ⟨fkeep hb h.1,fkeep hb h.2.1,fkeep hb h.2.2.1,fkeep hb h.2.2.2.1,fkeep hb h.2.2.2.2.1,fkeep hb h.2.2.2.2.2.1,fkeep hb h.2.2.2.2.2.2.1,fkeep hb h.2.2.2.2.2.2.2⟩
end Go.Proofs.YteckjlkhopkogaaGreat
