/- Contracts: RemoveLight, both sides. -/
import Derived.Test.YteckjlkhopkogaaGreatWo2
import Derived.Test.YteckjlkhopkogaaGreatU6
import Derived.Test.YteckjlkhopkogaaGreatGrP
import Derived.Deep.RegionHeld3
import Derived.Deep.DeepCutAuto
namespace Go.Proofs.YteckjlkhopkogaaGreat
open Go.RowKit Go.PlainAid
def zeroP:PlanV:=⟨⟨[],[]⟩,[]⟩
theorem zeroP_small:SmPl zeroP:=⟨⟨⟨⟨by simp [zeroP],by simp [zeroP]⟩,by simp [zeroP]⟩,⟨by simp [zeroP],by simp [zeroP]⟩⟩,by simp [zeroP]⟩
theorem zeroP_own (w:World) (base:Nat):PlOwn w base (.agg #[.slice none 0 0, .slice none 0 0, .slice none 0 0]) zeroP :=
 ⟨none,0,none,0,none,0,[],rfl,Or.inl ⟨rfl,rfl⟩,Or.inl ⟨rfl,rfl⟩,Or.inl ⟨rfl,rfl⟩,(by intro x hx; cases hx),(by intro i j x y _ hx; simp at hx),rfl,Nat.le_refl _,by omega,Nat.le_refl _,by omega⟩
theorem PlOwn.setO {w:World} {base g:Nat} {v:Value} {P:PlanV} {cs:List Value} (h:PlOwn w base v P) (hr:RowAt w g 38 cs) (i:Nat) (u:Value):PlOwn (w.setCell ⟨g,i,none⟩ u) base v P:=by
 obtain ⟨q,c,p,d,r,e,l,h1,h2,h3,h4,h5,h6⟩:=h
 exact ⟨q,c,p,d,r,e,l,h1,h2.setO hr (by decide) _ _,h3.setO hr (by decide) _ _,h4.setO hr (by decide) _ _,fun x hx=>(h5 x hx).setO hr (by decide) _ _,h6⟩
theorem PlOwn.shape {w:World} {base:Nat} {v:Value} {P:PlanV} (h:PlOwn w base v P):∃ q m c p k d r i e,v = .agg #[.slice q m c, .slice p k d, .slice r i e]:=by
 obtain ⟨q,c,p,d,r,e,l,h1,_⟩:=h
 exact ⟨_,_,_,_,_,_,_,_,_,h1⟩
theorem PlOwn.box {w:World} {base g:Nat} {v a b c:Value} {P:PlanV} (h:PlOwn w base v P) (hr:RowAt w g 38 [.slice none 0 0, .slice none 0 0, .slice none 0 0]):PlOwn (((w.setCell ⟨g,0,none⟩ a).setCell ⟨g,1,none⟩ b).setCell ⟨g,2,none⟩ c) base v P :=
 ((h.setO hr _ _).setO (hr.set 0 _) _ _).setO ((hr.set 0 _).set 1 _) _ _
end Go.Proofs.YteckjlkhopkogaaGreat
