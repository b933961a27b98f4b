/- Texts of mine laid together (Rml, MvP). -/
import Derived.Test.YteckjlkhopkogaaGreatM4
import Derived.Test.YteckjlkhopkogaaGreatU6
import Derived.Test.YteckjlkhopkogaaGreatM2
import Derived.Deep.RegionHeld3
import Derived.Deep.DeepCutAuto
namespace Go.Proofs.YteckjlkhopkogaaGreat
open Go.RowKit Go.PlainAid
def zeroP:PlanV:=⟨⟨[],[]⟩,[]⟩
theorem zeroP_small:SmPl zeroP:=⟨⟨⟨⟨by simp[zeroP],by simp[zeroP]⟩,by simp[zeroP]⟩,⟨by simp[zeroP],by simp[zeroP]⟩⟩,by simp[zeroP]⟩
theorem zeroP_own (w:World) (base:Nat):PlOwn w base (.agg #[.slice none 0 0,.slice none 0 0,.slice none 0 0]) zeroP :=
 ⟨none,0,none,0,none,0,[],rfl,Or.inl ⟨rfl,rfl⟩,Or.inl ⟨rfl,rfl⟩,Or.inl ⟨rfl,rfl⟩,(by intro x hx;cases hx),(by intro i j x y _ hx;simp at hx),rfl,Nat.le_refl _,by omega,Nat.le_refl _,by omega⟩
theorem PlOwn.setO {w:World} {base g:Nat} {v:Value} {P:PlanV} {cs:List Value} (h:PlOwn w base v P) (hr:RowAt w g 38 cs) (i:Nat) (u:Value):PlOwn (w.setCell ⟨g,i,none⟩ u) base v P:=by
 obtain⟨q,c,p,d,r,e,l,h1,h2,h3,h4,h5,h6⟩:=h
 exact⟨q,c,p,d,r,e,l,h1,h2.setO hr (by decide) _ _,h3.setO hr (by decide) _ _,h4.setO hr (by decide) _ _,fun x hx=>(h5 x hx).setO hr (by decide) _ _,h6⟩
theorem PlOwn.shape {w:World} {base:Nat} {v:Value} {P:PlanV} (h:PlOwn w base v P):∃ q m c p k d r i e,v=.agg #[.slice q m c,.slice p k d,.slice r i e]:=by
 obtain⟨q,c,p,d,r,e,l,h1,_⟩:=h
 exact⟨_,_,_,_,_,_,_,_,_,h1⟩
theorem PlOwn.box {w:World} {base g:Nat} {v a b c:Value} {P:PlanV} (h:PlOwn w base v P) (hr:RowAt w g 38 [.slice none 0 0,.slice none 0 0,.slice none 0 0]):PlOwn (((w.setCell ⟨g,0,none⟩ a).setCell ⟨g,1,none⟩ b).setCell ⟨g,2,none⟩ c) base v P :=
 ((h.setO hr _ _).setO (hr.set 0 _) _ _).setO ((hr.set 0 _).set 1 _) _ _
theorem get3 {A B C:List Value} {a b:Nat} (ha:A.length=a) (hb:B.length=b) (t:Nat):(A++(B++C))[t]?=if t<a then A[t]? else if t<a+b then B[t - a]? else C[t - a - b]?:=by
 rcases Nat.lt_or_ge t a with h|h
 ·rw[if_pos h,List.getElem?_append_left (by omega)]
 ·rw[if_neg (by omega),List.getElem?_append_right (by omega),ha]
  rcases Nat.lt_or_ge t (a+b) with h2|h2
  ·rw[if_pos h2,List.getElem?_append_left (by omega)]
  ·rw[if_neg (by omega),List.getElem?_append_right (by omega),hb]
def IncL (L:List LtV):Prop:=∀ (i j:Nat) (x y:LtV),i<j→L[i]?=some x→L[j]?=some y→x.1<y.1
theorem planB_inc {P:PlanV} (h:planB P=true):IncL P.lights:=by
 obtain⟨_,_,h3⟩:=planB_at h
 have step:∀ k x y,P.lights[k]?=some x→P.lights[k+1]?=some y→x.1<y.1:=by
  intro k x y hx hy
  have hk:k+1<P.lights.length:=by
   rcases Nat.lt_or_ge (k+1) P.lights.length with h' | h'
   ·exact h'
   ·rw[List.getElem?_eq_none h'] at hy;cases hy
  have h4:=h3 (k+1) hk
  rw[ltAt_of hy] at h4
  simp only[Bool.and_eq_true] at h4
  have h5:=h4.1.2
  rw[order_next (by omega) (show P.lights[k+1 - 1]?=some x from hx)] at h5
  simpa using h5
 intro i j x y hij
 induction j generalizing y with
 | zero=>omega
 | succ j ih =>
  intro hx hy
  rcases Nat.lt_or_ge i j with h' | h'
  ·obtain⟨z,hz⟩:∃ z,P.lights[j]?=some z:=by
    rcases Nat.lt_or_ge j P.lights.length with h9|h9
    ·exact⟨_,List.getElem?_eq_getElem h9⟩
    ·rw[List.getElem?_eq_none (by omega)] at hy;cases hy
   have h1:=ih z h' hx hz
   have h2:=step j z y hz hy
   omega
  ·have:i=j:=by omega
   subst this
   exact step i x y hx hy
theorem findL_neg {L:List LtV} {id:Int} (h:findL L id<0):∀ x∈L,x.1≠id:=by
 intro x hx he
 have:=idxP_any L (fun x=>x.1 == id)
 have h1:L.any (fun x=>x.1 == id)=true:=List.any_eq_true.2 ⟨x,hx,by simp[he]⟩
 rw[h1] at this
 have h2:0≤idxP L (fun x=>x.1 == id):=by simpa using this
 unfold findL at h
 omega
theorem planB_ids {P:PlanV} (h:planB P=true):∀ x∈P.lights,1≤x.1:=by
 intro x hx
 have:=planB_lt h x hx
 unfold ltB at this
 simp only[Bool.and_eq_true,inB_iff] at this
 exact this.1.1.1
theorem ins_len (L:List LtV) (X:LtV):(insF L X).length=L.length+1:=by
 unfold insF
 have:=posF_le L X.1
 simp;omega
end Go.Proofs.YteckjlkhopkogaaGreat
