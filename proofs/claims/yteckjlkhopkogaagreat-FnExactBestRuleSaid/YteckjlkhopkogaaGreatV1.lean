/- Texts of mine laid together (StP, StQ, St1). -/
import Derived.Test.YteckjlkhopkogaaGreatU1
namespace Go.Proofs.YteckjlkhopkogaaGreat
structure Swo (lt:Nat→Nat→Bool):Prop where
 asy:∀ i j,lt i j=true→lt j i=false
 nt:∀ i j k,lt i j=false→lt j k=false→lt i k=false
def ll (lt:Nat→Nat→Bool) (i j:Nat):Prop:=lt i j=true∨(lt j i=false∧i<j)
theorem ll_le {lt:Nat→Nat→Bool} (_h:Swo lt) {x y:Nat} (hx:lt y x=false) (hi:x<y):ll lt x y:=by
 cases hc:lt x y
 ·exact Or.inr ⟨hx,hi⟩
 ·exact Or.inl hc
theorem ll_ge {lt:Nat→Nat→Bool} (h:Swo lt) {x y:Nat} (hl:ll lt x y):lt y x=false:=by
 rcases hl with h1|⟨h1,_⟩
 ·exact h.asy _ _ h1
 ·exact h1
def Sg (lt:Nat→Nat→Bool) (s:Nat→Nat) (a b:Nat):Prop:=∀ i j,a≤i→i<j→j<b→ll lt (s i) (s j)
def Cx (s:Nat→Nat) (a m b:Nat):Prop:=∀ i j,a≤i→i<m→m≤j→j<b→s i<s j
def Al (lt:Nat→Nat→Bool) (s:Nat→Nat) (a m b:Nat):Prop:=∀ i j,a≤i→i<m→m≤j→j<b→ll lt (s i) (s j)
theorem Sg.le {lt:Nat→Nat→Bool} {s:Nat→Nat} {a b:Nat} (hw:Swo lt) (h:Sg lt s a b) {i j:Nat} (h1:a≤i) (h2:i≤j) (h3:j<b):lt (s j) (s i)=false:=by
 rcases Nat.eq_or_lt_of_le h2 with h' | h'
 ·subst h'
  cases hc:lt (s i) (s i)
  ·rfl
  ·have:=hw.asy _ _ hc;rw[hc] at this;cases this
 ·exact ll_ge hw (h i j h1 h' h3)
theorem Sg.join {lt:Nat→Nat→Bool} {s:Nat→Nat} {a m b:Nat} (h1:Sg lt s a m) (h2:Sg lt s m b) (h3:Al lt s a m b):Sg lt s a b:=by
 intro i j hi hij hj
 rcases Nat.lt_or_ge j m with h|h
 ·exact h1 i j hi hij h
 ·rcases Nat.lt_or_ge i m with h' | h'
  ·exact h3 i j hi h' h hj
  ·exact h2 i j h' hij hj
def PI (a b:Nat) (s s':Nat→Nat):Prop:=∃ f g:Nat→Nat,(∀ i,g (f i)=i)∧(∀ i,f (g i)=i)∧(∀ i,¬ (a≤i∧i<b)→f i=i)∧∀ i,s' i=s (f i)
theorem PI.refl (a b:Nat) (s:Nat→Nat):PI a b s s:=⟨id,id,fun _=>rfl,fun _=>rfl,fun _ _=>rfl,fun _=>rfl⟩
theorem PI.trans {a b:Nat} {s s' s'':Nat→Nat} (h:PI a b s s') (k:PI a b s' s''):PI a b s s'':=by
 obtain⟨f,g,h1,h2,h3,h4⟩:=h
 obtain⟨f',g',k1,k2,k3,k4⟩:=k
 refine⟨fun i=>f (f' i),fun i=>g' (g i),fun i=>by show g' (g (f (f' i)))=i;rw[h1,k1],fun i=>by show f (f' (g' (g i)))=i;rw[k2,h2],fun i hi=>?_,fun i=>by rw[k4,h4]⟩
 show f (f' i)=i
 rw[k3 i hi,h3 i hi]
theorem PI.wide {a b a' b':Nat} {s s':Nat→Nat} (h:PI a b s s') (h1:a'≤a) (h2:b≤b'):PI a' b' s s':=by
 obtain⟨f,g,e1,e2,e3,e4⟩:=h
 exact⟨f,g,e1,e2,fun i hi=>e3 i (by omega),e4⟩
theorem PI.out {a b:Nat} {s s':Nat→Nat} (h:PI a b s s') {i:Nat} (hi:¬ (a≤i∧i<b)):s' i=s i:=by
 obtain⟨f,g,e1,e2,e3,e4⟩:=h
 rw[e4,e3 i hi]
theorem PI.at {a b:Nat} {s s':Nat→Nat} (h:PI a b s s') {i:Nat} (hi:a≤i∧i<b):∃ k,a≤k∧k<b∧s' i=s k:=by
 obtain⟨f,g,e1,e2,e3,e4⟩:=h
 refine⟨f i,?_⟩
 by_cases hk:a≤f i∧f i<b
 ·exact⟨hk.1,hk.2,e4 i⟩
 ·exfalso
  have h1:=e3 (f i) hk
  have h2:=e1 (f i)
  rw[h1] at h2
  rw[e1 i] at h2
  rw[← h2] at hk
  exact hk hi
theorem PI.sub_at {a b lo hi:Nat} {s s':Nat→Nat} (h:PI a b s s') (h1:(lo≤a∧b≤hi)∨hi≤a∨b≤lo) {i:Nat} (hi':lo≤i∧i<hi):∃ k,lo≤k∧k<hi∧s' i=s k:=by
 by_cases hab:a≤i∧i<b
 ·obtain⟨k,a1,a2,a3⟩:=h.at hab
  exact⟨k,by omega,by omega,a3⟩
 ·exact⟨i,hi'.1,hi'.2,h.out hab⟩
theorem PI.cx {a b lo m hi:Nat} {s s':Nat→Nat} (h:PI a b s s') (hc:Cx s lo m hi) (h1:lo≤a∧b≤m∨m≤a∧b≤hi):Cx s' lo m hi:=by
 intro i j a1 a2 a3 a4
 obtain⟨k,b1,b2,b3⟩:=h.sub_at (lo:=lo) (hi:=m) (by omega) ⟨a1,a2⟩
 obtain⟨k',c1,c2,c3⟩:=h.sub_at (lo:=m) (hi:=hi) (by omega) ⟨a3,a4⟩
 rw[b3,c3]
 exact hc k k' b1 b2 c1 c2
theorem PI.al {lt:Nat→Nat→Bool} {a b lo m hi:Nat} {s s':Nat→Nat} (h:PI a b s s') (hc:Al lt s lo m hi) (h1:lo≤a∧b≤m∨m≤a∧b≤hi):Al lt s' lo m hi:=by
 intro i j a1 a2 a3 a4
 obtain⟨k,b1,b2,b3⟩:=h.sub_at (lo:=lo) (hi:=m) (by omega) ⟨a1,a2⟩
 obtain⟨k',c1,c2,c3⟩:=h.sub_at (lo:=m) (hi:=hi) (by omega) ⟨a3,a4⟩
 rw[b3,c3]
 exact hc k k' b1 b2 c1 c2
theorem PI.sg {lt:Nat→Nat→Bool} {a b lo hi:Nat} {s s':Nat→Nat} (h:PI a b s s') (hc:Sg lt s lo hi) (h1:hi≤a∨b≤lo):Sg lt s' lo hi:=by
 intro i j a1 a2 a3
 rw[h.out (i:=i) (by omega),h.out (i:=j) (by omega)]
 exact hc i j a1 a2 a3
def sw1 (s:Nat→Nat) (p q:Nat):Nat→Nat:=fun i=>if i=p then s q else if i=q then s p else s i
def swN (s:Nat→Nat) (p q k:Nat):Nat→Nat:=fun i=>if p≤i∧i<p+k then s (i - p+q) else if q≤i∧i<q+k then s (i - q+p) else s i
theorem swN_zero (s:Nat→Nat) (p q:Nat):swN s p q 0=s:=by
 funext i
 unfold swN
 rw[if_neg (by omega),if_neg (by omega)]
theorem swN_succ (s:Nat→Nat) (p q k:Nat) (h:p+k<q):sw1 (swN s p q k) (p+k) (q+k)=swN s p q (k+1):=by
 funext i
 unfold sw1 swN
 by_cases h1:i=p+k
 ·subst h1
  rw[if_pos rfl,if_neg (by omega),if_neg (by omega),if_pos (by omega)]
  congr 1 <;> omega
 ·rw[if_neg h1]
  by_cases h2:i=q+k
  ·subst h2
   rw[if_pos rfl,if_neg (by omega),if_neg (by omega),if_neg (by omega),if_pos (by omega)]
   congr 1 <;> omega
  ·rw[if_neg h2]
   by_cases h3:p≤i∧i<p+k
   ·rw[if_pos h3,if_pos (by omega)]
   ·by_cases h4:q≤i∧i<q+k
    ·rw[if_neg h3,if_pos h4,if_neg (by omega),if_pos (by omega)]
    ·rw[if_neg h3,if_neg h4,if_neg (by omega),if_neg (by omega)]
def rot (s:Nat→Nat) (p q r:Nat):Nat→Nat:=fun i=>if p≤i∧i<p+(r - q) then s (i+(q - p)) else if p+(r - q)≤i∧i<r then s (i - (r - q)) else s i
theorem rot_lo {s:Nat→Nat} {p q r i:Nat} (h:p≤i∧i<p+(r - q)):rot s p q r i=s (i+(q - p)):=by unfold rot;rw[if_pos h]
theorem rot_hi {s:Nat→Nat} {p q r i:Nat} (h:p+(r - q)≤i∧i<r):rot s p q r i=s (i - (r - q)):=by unfold rot;rw[if_neg (by omega),if_pos h]
theorem rot_out {s:Nat→Nat} {p q r i:Nat} (h0:p≤q∧q≤r) (h:¬ (p≤i∧i<r)):rot s p q r i=s i:=by unfold rot;rw[if_neg (by omega),if_neg (by omega)]
theorem rot_id1 (s:Nat→Nat) (p r:Nat):rot s p p r=s:=by
 funext i
 unfold rot
 by_cases h:p≤i∧i<p+(r - p)
 ·rw[if_pos h] <;> (congr 1 <;> omega)
 ·rw[if_neg h,if_neg (by omega)]
theorem rot_id2 (s:Nat→Nat) (p q:Nat) (_h:p≤q):rot s p q q=s:=by
 funext i
 unfold rot
 rw[if_neg (by omega)]
 by_cases h:p+(q - q)≤i∧i<q
 ·rw[if_pos h] <;> (congr 1 <;> omega)
 ·rw[if_neg h]
theorem rot_pi (s:Nat→Nat) (p q r:Nat) (h:p≤q∧q≤r):PI p r s (rot s p q r):=by
 refine⟨rot id p q r,rot id p (p+(r - q)) r,fun i=>?_,fun i=>?_,fun i hi=>rot_out h hi,fun i=>?_⟩
 ·unfold rot
  simp only[id_eq]
  by_cases h1:p≤i∧i<p+(r - q)
  ·rw[if_pos h1,if_neg (by omega),if_pos (by omega)];omega
  ·rw[if_neg h1]
   by_cases h2:p+(r - q)≤i∧i<r
   ·rw[if_pos h2,if_pos (by omega)];omega
   ·rw[if_neg h2,if_neg (by omega),if_neg (by omega)]
 ·unfold rot
  simp only[id_eq]
  by_cases h1:p≤i∧i<p+(r - (p+(r - q)))
  ·rw[if_pos h1,if_neg (by omega),if_pos (by omega)];omega
  ·rw[if_neg h1]
   by_cases h2:p+(r - (p+(r - q)))≤i∧i<r
   ·rw[if_pos h2,if_pos (by omega)];omega
   ·rw[if_neg h2,if_neg (by omega),if_neg (by omega)]
 ·unfold rot
  simp only[id_eq]
  split
  ·rfl
  ·split <;> rfl
theorem rot_gt (s:Nat→Nat) (m i j:Nat) (h:j<i) (hi:i≤m):rot s (m - i) m (m+j)=rot (swN s (m - i) m j) (m - (i - j)) m (m+j):=by
 funext k
 unfold rot swN
 by_cases h1:m - i≤k∧k<m - i+j
 ·rw[if_pos (by omega),if_neg (by omega),if_neg (by omega),if_pos (by omega)] <;> (congr 1 <;> omega)
 ·by_cases h2:m - i+j≤k∧k<m - i+j+j
  ·rw[if_neg (by omega),if_pos (by omega),if_pos (by omega),if_neg (by omega),if_pos (by omega)] <;> (congr 1 <;> omega)
  ·by_cases h3:m - i+j+j≤k∧k<m+j
   ·rw[if_neg (by omega),if_pos (by omega),if_neg (by omega),if_pos (by omega),if_neg (by omega),if_neg (by omega)] <;> (congr 1 <;> omega)
   ·rw[if_neg (by omega),if_neg (by omega),if_neg (by omega),if_neg (by omega),if_neg (by omega),if_neg (by omega)]
theorem rot_lt (s:Nat→Nat) (m i j:Nat) (h:i<j) (hi:i≤m):rot s (m - i) m (m+j)=rot (swN s (m - i) (m+j - i) i) (m - i) m (m+(j - i)):=by
 funext k
 unfold rot swN
 by_cases h0:m - i≤k∧k<m - i+(j - i)
 ·rw[if_pos (by omega),if_pos (by omega)]
  by_cases h1:m - i≤k+(m - (m - i))∧k+(m - (m - i))<m - i+i
  ·omega
  ·rw[if_neg h1,if_neg (by omega)]
 ·by_cases h2:m - i+(j - i)≤k∧k<m+(j - i)
  ·rw[if_pos (by omega),if_neg (by omega),if_pos (by omega),if_pos (by omega)] <;> (congr 1 <;> omega)
  ·by_cases h3:m+(j - i)≤k∧k<m+j
   ·rw[if_neg (by omega),if_pos (by omega),if_neg (by omega),if_neg (by omega),if_neg (by omega),if_pos (by omega)] <;> (congr 1 <;> omega)
   ·rw[if_neg (by omega),if_neg (by omega),if_neg (by omega),if_neg (by omega),if_neg (by omega),if_neg (by omega)]
theorem rot_eq (s:Nat→Nat) (m i:Nat) (hi:i≤m):rot s (m - i) m (m+i)=swN s (m - i) m i:=by
 funext k
 unfold rot swN
 by_cases h1:m - i≤k∧k<m - i+i
 ·rw[if_pos (by omega),if_pos (by omega)] <;> (congr 1 <;> omega)
 ·by_cases h2:m≤k∧k<m+i
  ·rw[if_neg (by omega),if_pos (by omega),if_neg (by omega),if_pos (by omega)] <;> (congr 1 <;> omega)
  ·rw[if_neg (by omega),if_neg (by omega),if_neg (by omega),if_neg (by omega)]
theorem rot_up (s:Nat→Nat) (a k:Nat) (h:a≤k):sw1 (rot s a (a+1) (k+1)) k (k+1)=rot s a (a+1) (k+2):=by
 funext i
 unfold sw1 rot
 by_cases h1:i=k
 ·subst h1
  rw[if_pos rfl,if_neg (by omega),if_neg (by omega),if_pos (by omega)] <;> (congr 1 <;> omega)
 ·rw[if_neg h1]
  by_cases h2:i=k+1
  ·subst h2
   rw[if_pos rfl,if_neg (by omega),if_pos (by omega),if_neg (by omega),if_pos (by omega)] <;> (congr 1 <;> omega)
  ·rw[if_neg h2]
   by_cases h3:a≤i∧i<k
   ·rw[if_pos (by omega),if_pos (by omega)]
   ·rw[if_neg (by omega),if_neg (by omega),if_neg (by omega),if_neg (by omega)]
theorem rot_dn (s:Nat→Nat) (m k:Nat) (h:k+1≤m):sw1 (rot s (k+1) m (m+1)) (k+1) k=rot s k m (m+1):=by
 funext i
 unfold sw1 rot
 by_cases h1:i=k+1
 ·subst h1
  rw[if_pos rfl,if_neg (by omega),if_neg (by omega),if_neg (by omega),if_pos (by omega)] <;> (congr 1 <;> omega)
 ·rw[if_neg h1]
  by_cases h2:i=k
  ·subst h2
   rw[if_pos rfl,if_pos (by omega),if_pos (by omega)] <;> (congr 1 <;> omega)
  ·rw[if_neg h2]
   by_cases h3:k+2≤i∧i<m+1
   ·rw[if_neg (by omega),if_pos (by omega),if_neg (by omega),if_pos (by omega)]
   ·rw[if_neg (by omega),if_neg (by omega),if_neg (by omega),if_neg (by omega)]
theorem rot_parts {lt:Nat→Nat→Bool} (hw:Swo lt) {s:Nat→Nat} {a p m e b:Nat} (h0:a≤p∧p≤m∧m≤e∧e≤b) (sA:Sg lt s a m) (sB:Sg lt s m b) (cx:Cx s a m b)
  (h1:p=a∨e=b∨lt (s e) (s (p - 1))=false) (h2:p=m∨e=m∨lt (s (e - 1)) (s p)=true) :
  Sg lt (rot s p m e) a p∧Sg lt (rot s p m e) p (p+(e - m))∧Sg lt (rot s p m e) (p+(e - m)) e∧Sg lt (rot s p m e) e b∧Cx (rot s p m e) a p (p+(e - m))∧Cx (rot s p m e) (p+(e - m)) e b∧Al lt (rot s p m e) a (p+(e - m)) b:=by
 have o:∀ i,¬ (p≤i∧i<e)→rot s p m e i=s i:=fun i hi=>rot_out (by omega) hi
 have lo:∀ i,p≤i→i<p+(e - m)→rot s p m e i=s (i+(m - p)):=fun i h h'=>rot_lo ⟨h,h'⟩
 have hi:∀ i,p+(e - m)≤i→i<e→rot s p m e i=s (i - (e - m)):=fun i h h'=>rot_hi ⟨h,h'⟩
 refine⟨fun i j a1 a2 a3=>?_,fun i j a1 a2 a3=>?_,fun i j a1 a2 a3=>?_,fun i j a1 a2 a3=>?_,fun i j a1 a2 a3 a4=>?_,fun i j a1 a2 a3 a4=>?_,fun i j a1 a2 a3 a4=>?_⟩
 ·rw[o i (by omega),o j (by omega)];exact sA i j a1 a2 (by omega)
 ·rw[lo i a1 (by omega),lo j (by omega) a3];exact sB _ _ (by omega) (by omega) (by omega)
 ·rw[hi i a1 (by omega),hi j (by omega) a3];exact sA _ _ (by omega) (by omega) (by omega)
 ·rw[o i (by omega),o j (by omega)];exact sB i j (by omega) a2 a3
 ·rw[o i (by omega),lo j a3 a4];exact cx _ _ a1 (by omega) (by omega) (by omega)
 ·rw[hi i a1 a2,o j (by omega)];exact cx _ _ (by omega) (by omega) (by omega) a4
 ·rcases Nat.lt_or_ge i p with q1|q1
  ·rw[o i (by omega)]
   rcases Nat.lt_or_ge j e with q2|q2
   ·rw[hi j a3 q2]
    exact sA _ _ a1 (by omega) (by omega)
   ·rw[o j (by omega)]
    refine ll_le hw ?_ (cx _ _ a1 (by omega) (by omega) a4)
    rcases h1 with h1|h1|h1
    ·omega
    ·omega
    ·exact hw.nt _ _ _ (Sg.le hw sB (by omega) q2 a4) (hw.nt _ _ _ h1 (Sg.le hw sA a1 (by omega) (by omega)))
  ·rw[lo i q1 a2]
   rcases Nat.lt_or_ge j e with q2|q2
   ·rw[hi j a3 q2]
    left
    rcases h2 with h2|h2|h2
    ·omega
    ·omega
    ·cases hc:lt (s (i+(m - p))) (s (j - (e - m)))
     ·have e1:=Sg.le hw sB (i:=i+(m - p)) (j:=e - 1) (by omega) (by omega) (by omega)
      have e2:=Sg.le hw sA (i:=p) (j:=j - (e - m)) (by omega) (by omega) (by omega)
      have:=hw.nt _ _ _ (hw.nt _ _ _ e1 hc) e2
      rw[h2] at this;cases this
     ·rfl
   ·rw[o j (by omega)]
    exact sB _ _ (by omega) (by omega) a4
theorem rot_one {lt:Nat→Nat→Bool} (hw:Swo lt) {s:Nat→Nat} {a e b:Nat} (h0:a+1≤e∧e≤b) (sB:Sg lt s (a+1) b) (cx:Cx s a (a+1) b)
  (h1:e=b∨lt (s e) (s a)=false) (h2:e=a+1∨lt (s (e - 1)) (s a)=true):Sg lt (rot s a (a+1) e) a b:=by
 obtain⟨_,p2,_,p4,_,_,p7⟩:=rot_parts hw (a:=a) (p:=a) (m:=a+1) (e:=e) (b:=b) (by omega) (fun i j x y z=>by omega) sB cx (Or.inl rfl) (Or.inr h2)
 refine Sg.join (m:=a+(e - (a+1))) p2 (Sg.join (m:=e) (fun i j x y z=>by omega) p4 fun i j x1 x2 x3 x4=>?_) p7
 have hie:i=e - 1:=by omega
 subst hie
 rw[rot_hi (by omega),rot_out (by omega) (by omega)]
 have e1:e - 1 - (e - (a+1))=a:=by omega
 rw[e1]
 refine ll_le hw ?_ (cx _ _ (by omega) (by omega) (by omega) x4)
 rcases h1 with h1|h1
 ·omega
 ·exact hw.nt _ _ _ (Sg.le hw sB (by omega) x3 x4) h1
theorem rot_last {lt:Nat→Nat→Bool} (hw:Swo lt) {s:Nat→Nat} {a p m:Nat} (h0:a≤p∧p≤m) (sA:Sg lt s a m) (cx:Cx s a m (m+1))
  (h1:p=a∨lt (s m) (s (p - 1))=false) (h2:p=m∨lt (s m) (s p)=true):Sg lt (rot s p m (m+1)) a (m+1):=by
 obtain⟨p1,_,p3,_,_,_,p7⟩:=rot_parts hw (a:=a) (p:=p) (m:=m) (e:=m+1) (b:=m+1) (by omega) sA (fun i j x y z=>by omega) cx (Or.inr (Or.inl rfl)) (by rcases h2 with h2|h2;exact Or.inl h2;exact Or.inr (Or.inr h2))
 have e1:p+(m+1 - m)=p+1:=by omega
 rw[e1] at p3 p7
 refine Sg.join (m:=p+1) (Sg.join (m:=p) p1 (fun i j x y z=>by omega) fun i j x1 x2 x3 x4=>?_) p3 p7
 have hjp:j=p:=by omega
 subst hjp
 rw[rot_out (by omega) (by omega),rot_lo (by omega)]
 have e2:j+(m - j)=m:=by omega
 rw[e2]
 refine ll_le hw ?_ (cx _ _ x1 (by omega) (by omega) (by omega))
 rcases h1 with h1|h1
 ·omega
 ·exact hw.nt _ _ _ h1 (Sg.le hw sA x1 (by omega) (by omega))
theorem halves {lt:Nat→Nat→Bool} {s1 s2 s3:Nat→Nat} {a c b:Nat} (al:Al lt s1 a c b) (k1:PI a c s1 s2) (h1:Sg lt s2 a c) (k2:PI c b s2 s3) (h2:Sg lt s3 c b) (_hab:a≤c∧c≤b):Sg lt s3 a b :=
 Sg.join (m:=c) (k2.sg h1 (Or.inl (Nat.le_refl _))) h2 (k2.al (k1.al al (Or.inl ⟨Nat.le_refl _,Nat.le_refl _⟩)) (Or.inr ⟨Nat.le_refl _,Nat.le_refl _⟩))
theorem ll_asym {lt:Nat→Nat→Bool} (h:Swo lt) {i j:Nat} (h1:ll lt i j) (h2:ll lt j i):False:=by
 rcases h1 with h1|⟨h1,h1'⟩
 ·rcases h2 with h2|⟨h2,_⟩
  ·have:=h.asy _ _ h1;rw[h2] at this;cases this
  ·rw[h1] at h2;cases h2
 ·rcases h2 with h2|⟨_,h2'⟩
  ·rw[h1] at h2;cases h2
  ·omega
theorem PI.range {n:Nat} {s:Nat→Nat} (h:PI 0 n id s):(∀ i,i<n→s i<n)∧(∀ i j,s i=s j→i=j)∧∀ i,i<n→∃ k,k<n∧s k=i:=by
 have h0:=h
 obtain⟨f,g,h1,h2,h3,h4⟩:=h
 have hs:∀ i,s i=f i:=fun i=>h4 i
 refine⟨fun i hi=>?_,fun i j e=>?_,fun i hi=>⟨g i,?_,?_⟩⟩
 ·obtain⟨k,_,hk,e⟩:=h0.at ⟨Nat.zero_le i,hi⟩
  rw[e];exact hk
 ·rw[hs,hs] at e
  have:=congrArg g e
  rwa [h1,h1] at this
 ·rcases Nat.lt_or_ge (g i) n with h' | h'
  ·exact h'
  ·have h5:=h3 (g i) (by omega)
   rw[h2] at h5
   omega
 ·rw[hs,h2]
theorem sg_uniq {lt:Nat→Nat→Bool} (hw:Swo lt) {n:Nat} {s t:Nat→Nat} (hs:PI 0 n id s) (ht:PI 0 n id t) (a:Sg lt s 0 n) (b:Sg lt t 0 n):∀ i,i<n→s i=t i:=by
 obtain⟨s1,s2,s3⟩:=hs.range
 obtain⟨t1,t2,t3⟩:=ht.range
 intro i
 induction i using Nat.strongRecOn with
 | _ i ih =>
  intro hi
  obtain⟨k,hk,ek⟩:=t3 (s i) (s1 i hi)
  obtain⟨k',hk',ek'⟩:=s3 (t i) (t1 i hi)
  rcases Nat.lt_trichotomy k i with h|h|h
  ·have:=ih k h hk
   rw[ek] at this
   have:=s2 _ _ this
   omega
  ·rw[← ek,h]
  ·rcases Nat.lt_trichotomy k' i with h' | h' | h'
   ·have:=ih k' h' hk'
    rw[ek'] at this
    have:=t2 _ _ this
    omega
   ·rw[← ek',h']
   ·have e1:=b i k (Nat.zero_le _) h hk
    have e2:=a i k' (Nat.zero_le _) h' hk'
    rw[ek] at e1
    rw[ek'] at e2
    exact(ll_asym hw e1 e2).elim
def insAt (lt:Nat→Nat→Bool) (s:Nat→Nat) (m:Nat):Nat→Nat
 | 0=>0
 | k+1=>if lt m (s k)=true then insAt lt s m k else k+1
def ordS (lt:Nat→Nat→Bool):Nat→Nat→Nat
 | 0=>id
 | m+1=>rot (ordS lt m) (insAt lt (ordS lt m) m m) m (m+1)
theorem insAt_le (lt:Nat→Nat→Bool) (s:Nat→Nat) (m:Nat):∀ k,insAt lt s m k≤k
 | 0=>Nat.le_refl _
 | k+1=>by
  unfold insAt
  split
  ·have:=insAt_le lt s m k;omega
  ·exact Nat.le_refl _
theorem insAt_lo (lt:Nat→Nat→Bool) (s:Nat→Nat) (m:Nat):∀ k,insAt lt s m k=0∨lt m (s (insAt lt s m k - 1))=false
 | 0=>Or.inl rfl
 | k+1=>by
  unfold insAt
  split
  ·exact insAt_lo lt s m k
  ·next h=>right;simpa using h
theorem insAt_hi (lt:Nat→Nat→Bool) (s:Nat→Nat) (m:Nat):∀ k,insAt lt s m k=k∨lt m (s (insAt lt s m k))=true
 | 0=>Or.inl rfl
 | k+1=>by
  unfold insAt
  split
  ·next h =>
   right
   rcases insAt_hi lt s m k with h' | h'
   ·rw[h'];exact h
   ·exact h'
  ·exact Or.inl rfl
theorem ordS_out (lt:Nat→Nat→Bool):∀ m i,m≤i→ordS lt m i=i
 | 0,_,_=>rfl
 | m+1,i,h=>by
  unfold ordS
  rw[rot_out ⟨insAt_le lt _ m m,by omega⟩ (by omega)]
  exact ordS_out lt m i (by omega)
theorem ordS_pi (lt:Nat→Nat→Bool):∀ m,PI 0 m id (ordS lt m)
 | 0=>PI.refl _ _ _
 | m+1=>((ordS_pi lt m).wide (Nat.le_refl _) (Nat.le_succ _)).trans ((rot_pi _ _ _ _ ⟨insAt_le lt _ m m,by omega⟩).wide (Nat.zero_le _) (Nat.le_refl _))
theorem ordS_sg {lt:Nat→Nat→Bool} (hw:Swo lt):∀ m,Sg lt (ordS lt m) 0 m
 | 0=>fun i j _ h h'=>by omega
 | m+1=>by
  refine rot_last hw ⟨Nat.zero_le _,insAt_le lt _ m m⟩ (ordS_sg hw m) (fun i j _ h2 h3 h4=>?_) ?_ ?_
  ·have:j=m:=by omega
   subst this
   rw[ordS_out lt j j (Nat.le_refl _)]
   exact(ordS_pi lt j).range.1 i h2
  ·rw[ordS_out lt m m (Nat.le_refl _)];exact insAt_lo lt _ m m
  ·rw[ordS_out lt m m (Nat.le_refl _)];exact insAt_hi lt _ m m
theorem sorted_is {lt:Nat→Nat→Bool} (hw:Swo lt) {n:Nat} {s:Nat→Nat} (hs:PI 0 n id s) (a:Sg lt s 0 n):∀ i,i<n→s i=ordS lt n i:=sg_uniq hw hs (ordS_pi lt n) a (ordS_sg hw n)
structure Bks (lt:Nat→Nat→Bool) (s:Nat→Nat) (q n a:Nat):Prop where
 lo:∀ x,x % (2 * q)=0→x<a→Sg lt s x (min (x+2 * q) n)
 hi:∀ x,x % q=0→a≤x→x≤n→Sg lt s x (min (x+q) n)
 cx:∀ x,x % (2 * q)=0→x≤n→Cx s 0 x n
 cxh:∀ x,x % q=0→a≤x→x≤n→Cx s 0 x n
theorem Cx.sub {s:Nat→Nat} {a m b a' b':Nat} (h:Cx s a m b) (h1:a≤a') (h2:b'≤b):Cx s a' m b':=fun i j x y z u=>h i j (by omega) y z (by omega)
theorem mod_add (x k:Nat):(x+k) % k=x % k:=Nat.add_mod_right x k
theorem mod_two {x q:Nat} (h:x % (2 * q)=0):x % q=0:=by
 have:=Nat.mod_mod_of_dvd x (Nat.dvd_mul_left q 2)
 rw[h] at this;simpa using this.symm
theorem mul_gap {x y q:Nat} (_hq:0<q) (hx:x % q=0) (hy:y % q=0) (h:x<y):x+q≤y:=by
 obtain⟨i,rfl⟩:=Nat.dvd_of_mod_eq_zero hx
 obtain⟨j,rfl⟩:=Nat.dvd_of_mod_eq_zero hy
 have:i<j:=Nat.lt_of_mul_lt_mul_left h
 calc q * i+q=q * (i+1):=by rw[Nat.mul_succ]
  _≤q * j:=Nat.mul_le_mul_left q this
theorem Bks.step {lt:Nat→Nat→Bool} {s s':Nat→Nat} {q n a b:Nat} (hq:0<q) (h:Bks lt s q n a) (ha:a % (2 * q)=0) (hb:b=min (a+2 * q) n) (han:a≤n) (hp:PI a b s s') (hs:Sg lt s' a b):Bks lt s' q n (a+2 * q):=by
 have hb1:b≤a+2 * q:=by omega
 have hb2:b≤n:=by omega
 refine⟨fun x hx hlt=>?_,fun x hx hle hxn=>?_,fun x hx hxn=>?_,fun x hx hle hxn=>?_⟩
 ·rcases Nat.lt_trichotomy x a with h' | h' | h'
  ·have:=mul_gap (by omega) hx ha h'
   exact hp.sg (h.lo x hx h') (Or.inl (by omega))
  ·subst h';rw[← hb];exact hs
  ·have:=mul_gap (by omega) ha hx h'
   omega
 ·exact hp.sg (h.hi x hx (by omega) hxn) (Or.inr (by omega))
 ·rcases Nat.lt_or_ge a x with h' | h'
  ·have:=mul_gap (by omega) ha hx h'
   exact hp.cx (h.cx x hx hxn) (Or.inl ⟨Nat.zero_le _,by omega⟩)
  ·exact hp.cx (h.cx x hx hxn) (Or.inr ⟨h',hb2⟩)
 ·exact hp.cx (h.cxh x hx (by omega) hxn) (Or.inl ⟨Nat.zero_le _,by omega⟩)
theorem Bks.next {lt:Nat→Nat→Bool} {s:Nat→Nat} {q n a:Nat} (hq:0<q) (h:Bks lt s q n a) (ha:a % (2 * q)=0) (hn:n≤a+q):Bks lt s (2 * q) n 0:=by
 refine⟨fun x _ hlt=>by omega,fun x hx _ hxn=>?_,fun x hx hxn=>h.cx x (mod_two hx) hxn,fun x hx _ hxn=>h.cx x hx hxn⟩
 rcases Nat.lt_or_ge x a with h' | h'
 ·exact h.lo x hx h'
 ·have e:x=a∨n≤x:=by
   rcases Nat.eq_or_lt_of_le h' with h'' | h''
   ·exact Or.inl h''.symm
   ·have:=mul_gap (by omega) ha hx h''
    exact Or.inr (by omega)
  rcases e with rfl|e
  ·have:=h.hi x (mod_two hx) (Nat.le_refl _) hxn
   rw[Nat.min_eq_right (by omega)] at this ⊢
   exact this
  ·intro i j h1 h2 h3
   omega
theorem Bks.all {lt:Nat→Nat→Bool} {s:Nat→Nat} {q n:Nat} (h:Bks lt s q n 0) (hn:n≤q):Sg lt s 0 n:=by
 have:=h.hi 0 (Nat.zero_mod _) (Nat.le_refl _) (Nat.zero_le _)
 rwa [Nat.min_eq_right (by omega)] at this
structure Fst (lt:Nat→Nat→Bool) (s:Nat→Nat) (q n a:Nat):Prop where
 lo:∀ x,x % q=0→x<a→Sg lt s x (min (x+q) n)
 cx:∀ x,x % q=0→x≤n→Cx s 0 x n
 idy:∀ i,a≤i→s i=i
theorem Fst.start (lt:Nat→Nat→Bool) (q n:Nat):Fst lt id q n 0:=⟨fun x _ h=>by omega,fun x _ _ i j _ h2 h3 _=>by show i<j;omega,fun i _=>rfl⟩
theorem Fst.step {lt:Nat→Nat→Bool} {s s':Nat→Nat} {q n a b:Nat} (hq:0<q) (h:Fst lt s q n a) (ha:a % q=0) (hb:b=min (a+q) n) (hp:PI a b s s') (hs:Sg lt s' a b):Fst lt s' q n (a+q):=by
 have hb1:b≤a+q:=by omega
 refine⟨fun x hx hlt=>?_,fun x hx hxn=>?_,fun i hi=>?_⟩
 ·rcases Nat.lt_trichotomy x a with h' | h' | h'
  ·have:=mul_gap hq hx ha h'
   exact hp.sg (h.lo x hx h') (Or.inl (by omega))
  ·subst h';rw[← hb];exact hs
  ·have:=mul_gap hq ha hx h'
   omega
 ·rcases Nat.lt_or_ge a x with h' | h'
  ·have:=mul_gap hq ha hx h'
   exact hp.cx (h.cx x hx hxn) (Or.inl ⟨Nat.zero_le _,by omega⟩)
  ·rcases Nat.lt_or_ge n a with h9|h9
   ·exact hp.cx (h.cx x hx hxn) (Or.inr ⟨h',by omega⟩)
   ·exact hp.cx (h.cx x hx hxn) (Or.inr ⟨h',by omega⟩)
 ·rw[hp.out (by omega)];exact h.idy i (by omega)
theorem Fst.done {lt:Nat→Nat→Bool} {s:Nat→Nat} {q n a:Nat} (h:Fst lt s q n a) (hn:n≤a):Bks lt s q n 0:=by
 refine⟨fun x _ hlt=>by omega,fun x hx _ hxn=>?_,fun x hx hxn=>h.cx x (mod_two hx) hxn,fun x hx _ hxn=>h.cx x hx hxn⟩
 rcases Nat.lt_or_ge x a with h' | h'
 ·exact h.lo x hx h'
 ·intro i j h1 h2 h3
  omega
open Go.RowKit
structure CV where
 s:Int
 q:Option Addr
 n:Nat
 c:Nat
 k:Int
abbrev cvC (x:CV):List Value:=[.int .i64 x.s,.slice x.q x.n x.c,.int .i64 x.k]
def rowC (D:Nat→CV) (s:Nat→Nat) (n:Nat):List Value:=(List.range n).flatMap fun i=>cvC (D (s i))
theorem rowC_len (D:Nat→CV) (s:Nat→Nat) (n:Nat):(rowC D s n).length=n * 3:=by
 unfold rowC;rw[flat_len (fun i=>cvC (D (s i))) 3 (fun _=>rfl)];simp
theorem rowC_get {D:Nat→CV} {s:Nat→Nat} {n i r:Nat} (hi:i<n) (hr:r<3):(rowC D s n)[i * 3+r]?=(cvC (D (s i)))[r]? :=
 flat_get (fun i=>cvC (D (s i))) 3 (fun _=>rfl) (List.range n) i r hr i (by simp[hi])
theorem rowC_congr {D:Nat→CV} {s s':Nat→Nat} {n:Nat} (h:∀ i,i<n→s i=s' i):rowC D s n=rowC D s' n:=by
 unfold rowC
 have:∀ l:List Nat,(∀ i∈l,i<n)→l.flatMap (fun i=>cvC (D (s i)))=l.flatMap (fun i=>cvC (D (s' i))):=by
  intro l
  induction l with
  | nil=>intro _;rfl
  | cons a l ih =>
   intro hl
   rw[List.flatMap_cons,List.flatMap_cons,h a (hl a (by simp)),ih (fun i hi=>hl i (by simp[hi]))]
 exact this _ fun i hi=>by simpa using hi
theorem rowC_cells {w:World} {g:Nat} {T:TypeId} {D:Nat→CV} {s:Nat→Nat} {n:Nat} {sp:List Value} (h:RowAt w g T (rowC D s n++sp)) {i:Nat} (hi:i<n) :
  w.cell? ⟨g,i * 3,none⟩=some (.int .i64 (D (s i)).s)∧w.cell? ⟨g,i * 3+1,none⟩=some (.slice (D (s i)).q (D (s i)).n (D (s i)).c)∧w.cell? ⟨g,i * 3+2,none⟩=some (.int .i64 (D (s i)).k):=by
 have hl:=rowC_len D s n
 refine⟨h.cell ?_,h.cell ?_,h.cell ?_⟩
 ·rw[List.getElem?_append_left (by omega)];exact rowC_get (r:=0) hi (by omega)
 ·rw[List.getElem?_append_left (by omega)];exact rowC_get (r:=1) hi (by omega)
 ·rw[List.getElem?_append_left (by omega)];exact rowC_get (r:=2) hi (by omega)
def set3 (L:List Value) (o:Nat) (x:CV):List Value:=((L.set o (.int .i64 x.s)).set (o+1) (.slice x.q x.n x.c)).set (o+2) (.int .i64 x.k)
theorem set3_len (L:List Value) (o:Nat) (x:CV):(set3 L o x).length=L.length:=by simp[set3]
theorem set3_in {L:List Value} {o:Nat} {x:CV} (h:o+3≤L.length) {r:Nat} (hr:r<3):(set3 L o x)[o+r]?=(cvC x)[r]?:=by
 unfold set3
 match r,hr with
 | 0,_=>simp[List.getElem?_set];omega
 | 1,_=>simp[List.getElem?_set];omega
 | 2,_=>simp[List.getElem?_set];omega
theorem set3_out {L:List Value} {o:Nat} {x:CV} {t:Nat} (h:t<o∨o+3≤t):(set3 L o x)[t]?=L[t]?:=by
 unfold set3
 rw[List.getElem?_set_ne (by omega),List.getElem?_set_ne (by omega),List.getElem?_set_ne (by omega)]
theorem swap_row {D:Nat→CV} {s:Nat→Nat} {n i j:Nat} {sp:List Value} (hi:i<n) (hj:j<n):set3 (set3 (rowC D s n++sp) (i * 3) (D (s j))) (j * 3) (D (s i))=rowC D (sw1 s i j) n++sp:=by
 have hl:=rowC_len D s n
 have hl':=rowC_len D (sw1 s i j) n
 have e0:(rowC D s n++sp).length=n * 3+sp.length:=by simp[hl]
 apply List.ext_getElem?
 intro t
 rcases Nat.lt_or_ge t (n * 3) with h|h
 ·obtain⟨q,r,hq,hr,rfl⟩:∃ q r,q<n∧r<3∧t=q * 3+r:=⟨t / 3,t % 3,by omega,by omega,by omega⟩
  rw[show(rowC D (sw1 s i j) n++sp)[q * 3+r]?=(rowC D (sw1 s i j) n)[q * 3+r]? from List.getElem?_append_left (by omega),rowC_get hq hr]
  by_cases h2:q=j
  ·subst h2
   rw[set3_in (by rw[set3_len];omega) hr]
   unfold sw1
   by_cases h1:q=i
   ·subst h1;rw[if_pos rfl]
   ·rw[if_neg h1,if_pos rfl]
  ·rw[set3_out (by omega)]
   by_cases h1:q=i
   ·subst h1
    rw[set3_in (by omega) hr]
    unfold sw1;rw[if_pos rfl]
   ·rw[set3_out (by omega),List.getElem?_append_left (by omega),rowC_get hq hr]
    unfold sw1;rw[if_neg h1,if_neg h2]
 ·rw[set3_out (by omega),set3_out (by omega),List.getElem?_append_right (by omega),List.getElem?_append_right (by omega),hl,hl']
def swW (w:World) (g i j:Nat) (x y:CV):World :=
 (((((w.setCell ⟨g,i * 3,none⟩ (.int .i64 x.s)).setCell ⟨g,i * 3+1,none⟩ (.slice x.q x.n x.c)).setCell ⟨g,i * 3+2,none⟩ (.int .i64 x.k)).setCell ⟨g,j * 3,none⟩ (.int .i64 y.s)).setCell ⟨g,j * 3+1,none⟩ (.slice y.q y.n y.c)).setCell ⟨g,j * 3+2,none⟩ (.int .i64 y.k)
theorem row_set3 {w:World} {g:Nat} {T:TypeId} {L:List Value} (h:RowAt w g T L) (o:Nat) (x:CV):RowAt (((w.setCell ⟨g,o,none⟩ (.int .i64 x.s)).setCell ⟨g,o+1,none⟩ (.slice x.q x.n x.c)).setCell ⟨g,o+2,none⟩ (.int .i64 x.k)) g T (set3 L o x) :=
 ((h.set o _).set (o+1) _).set (o+2) _
def Srt (g:Nat) (w w':World):Prop:=(∀ h t cs,RowAt w h t cs→h≠g→RowAt w' h t cs)∧∀ w0:World,Fresh w0 w→w0.heap.size≤g→Fresh w0 w'
theorem Srt.refl (g:Nat) (w:World):Srt g w w:=⟨fun _ _ _ h _=>h,fun _ h _=>h⟩
theorem Srt.trans {g:Nat} {w w1 w2:World} (h:Srt g w w1) (k:Srt g w1 w2):Srt g w w2:=⟨fun a t cs h1 h2=>k.1 a t cs (h.1 a t cs h1 h2) h2,fun w0 h1 h2=>k.2 w0 (h.2 w0 h1 h2) h2⟩
theorem Srt.fresh {g:Nat} {w w1:World} (h:Fresh w w1):Srt g w w1:=⟨fun _ _ _ h1 _=>h1.keep h,fun _ h1 _=>fstep h1 h⟩
theorem Srt.set {g:Nat} {w w1:World} (h:Srt g w w1) (o:Nat) (v:Value):Srt g w (w1.setCell ⟨g,o,none⟩ v):=⟨fun a t cs h1 h2=>(h.1 a t cs h1 h2).setOther h2 _,fun w0 h1 h2=>fset (h.2 w0 h1 h2) h2 _⟩
theorem Srt.sw {g:Nat} {w w1:World} (h:Srt g w w1) (i j:Nat) (x y:CV):Srt g w (swW w1 g i j x y):=by
 unfold swW;exact(((((h.set _ _).set _ _).set _ _).set _ _).set _ _).set _ _
theorem row_sw {w:World} {g:Nat} {T:TypeId} {D:Nat→CV} {s:Nat→Nat} {n i j:Nat} {sp:List Value} (h:RowAt w g T (rowC D s n++sp)) (hi:i<n) (hj:j<n):RowAt (swW w g i j (D (s j)) (D (s i))) g T (rowC D (sw1 s i j) n++sp):=by
 rw[← swap_row hi hj]
 exact row_set3 (row_set3 h _ _) _ _
end Go.Proofs.YteckjlkhopkogaaGreat
