/- Texts of mine laid together (Rp, Rk2, Fq). -/
import Derived.Test.YteckjlkhopkogaaGreatU1
import Derived.Test.YteckjlkhopkogaaGreatU4
import Derived.StillTailTactics
import Derived.Deep.RegionHeld3
namespace Go.Proofs.YteckjlkhopkogaaGreat
open Go.RowKit Go.PlainAid
theorem infoFmt:(Tryz.prog.info? 107).map (fun i=>(i.zero,i.size,i.bytes))=some (some (.agg #[.int .i64 0,.int .i64 0]),2,16):=by kernel_rfl
set_option maxHeartbeats 400000 in
theorem toFormat_any (x y:Int) (w:World) :
  Calls Tryz.prog 68 #[.agg #[.int .i64 x,.int .i64 y]] w fun e w'=>e=.returned (.agg #[.int .i64 x,.int .i64 y])∧Fresh w w':=by
 go_enter Tryz.func68,Tryz.ntmps68
 go_wp2
 refine bodyPost_ret (v:=.agg #[.int .i64 x,.int .i64 y]) (by simp[results,Tryz.results68,go_sem]) rfl ⟨rfl,?_⟩
 repeat (first|exact frefl _|apply fnew|(refine fset ?_ (by simp) _))
set_option maxHeartbeats 1000000 in
theorem toFormatS_any (p:Option Addr) (cap:Nat) (l:List (Int × Int)) (w:World) (hI:Prs w p l) (hn:l.length≤1048576) :
  Calls Tryz.prog 22 #[.slice p l.length cap] w fun e w' =>
   e=.returned (.slice (some ⟨w.heap.size,0,none⟩) l.length l.length)∧RowAt w' w.heap.size 107 (pcs l)∧Fresh w w':=by
 have hmk:=mkPrs Tryz.underlying57 infoFmt l.length (by omega)
 go_enter Tryz.func22,Tryz.ntmps22
 go_wp2
 go_loopw [4] (fun i wr=>∃ k:Nat,k≤l.length∧i=.int .i64 k∧RowAt wr w.heap.size 107 (pcs (l.take k)++List.replicate ((l.length - k) * 2) (iv 0))∧Fresh w wr)
  (fun i _=>l.length - (intOf i).toNat)
 case atStart=>exact⟨0,Nat.zero_le _,rfl,RowAt.new w _ (List.replicate (l.length * 2) (iv 0)),fnew (frefl _) _⟩
 case round =>
  obtain⟨k,hk,rfl,hrow,hf⟩:=hrel
  by_cases hlt:k<l.length
  ·obtain⟨b,off,x,y,rfl,hx,hc0,hc1⟩:=hI.at hlt
   have hd0:=fkeep hf hc0
   have hd1:=fkeep hf hc1
   have HX:=Lib.hid hx
   have HR:=Lib.hid hrow
   have HF:=Lib.hid hf
   clear hx hc0 hc1 hI hrow hf
   go_wp2_with fail
   refine(toFormat_any _ _ _).mono ?_;rintro e w1 ⟨rfl,hb1⟩
   have hr1:=HR.out.keep hb1
   obtain⟨hz0,hz1⟩:=get_prs0 l k hlt
   have hcell0:=hr1.cell hz0
   have hcell1:=hr1.cell hz1
   have hfr0:=hr1.frozen (k * 2)
   have hfr1:=hr1.frozen (k * 2+1)
   have HR1:=Lib.hid hr1
   clear hr1 hz0 hz1
   go_wp2
   go_roundw
   case rel =>
    refine⟨k+1,by omega,by go_num,?_,fset (fset (fstep HF.out hb1) (Nat.le_refl _) _) (Nat.le_refl _) _⟩
    have:=(HR1.out.set (k * 2) (iv x)).set (k * 2+1) (iv y)
    rw[set_prs l k x y HX.out] at this
    exact this
   case measure=>simp[intOf];omega
  ·have hkn:k=l.length:=by omega
   subst hkn
   have HR:=Lib.hid hrow
   have HF:=Lib.hid hf
   clear hrow hf
   go_wp2
   go_ret
   refine⟨rfl,?_,HF.out⟩
   have:=HR.out
   rw[prs_end _ _ (Nat.le_refl _)] at this
   exact this
set_option maxHeartbeats 400000 in
theorem eqFormat_same (f c:Int) (w:World) :
  Calls Tryz.prog 71 #[.agg #[.int .i64 f,.int .i64 c],.agg #[.int .i64 f,.int .i64 c]] w fun e w'=>e=.returned (.bool true)∧Fresh w w':=by
 go_enter Tryz.func71,Tryz.ntmps71
 go_wp2
 go_ret
 exact⟨rfl,fnew (fnew (frefl _) _) _⟩
set_option maxRecDepth 100000 in
set_option maxHeartbeats 1000000 in
theorem eqFormatS_same (p q:Option Addr) (c d:Nat) (l:List (Int × Int)) (w:World) (hx:Prs w p l) (hy:Prs w q l) (hn:l.length≤1099511627776) :
  Calls Tryz.prog 26 #[.slice p l.length c,.slice q l.length d] w fun e w'=>e=.returned (.bool true)∧Fresh w w':=by
 go_enter Tryz.func26,Tryz.ntmps26
 go_wp2
 go_loopw [5] (fun i wr=>∃ k:Nat,k≤l.length∧i=.int .i64 k∧Fresh w wr) (fun i _=>l.length - (intOf i).toNat)
 case atStart=>exact⟨0,Nat.zero_le _,rfl,frefl _⟩
 case round =>
  obtain⟨k,hk,rfl,hf⟩:=hrel
  by_cases hlt:k<l.length
  ·obtain⟨b,off,x,y,rfl,hx0,hc0,hc1⟩:=hx.at hlt
   obtain⟨b',off',x',y',rfl,hy0,hc0',hc1'⟩:=hy.at hlt
   rw[hx0] at hy0
   simp only[Option.some.injEq,Prod.mk.injEq] at hy0
   obtain⟨rfl,rfl⟩:=hy0
   have hd0:=fkeep hf hc0
   have hd1:=fkeep hf hc1
   have hd0':=fkeep hf hc0'
   have hd1':=fkeep hf hc1'
   have HF:=Lib.hid hf
   clear hx0 hc0 hc1 hc0' hc1' hx hy hf
   have h1:(k:Int)<(l.length:Int):=by omega
   go_wp2
   go_still_tail 8,(by kernel_rfl)
   change wpList _ _ _ _ _ wr.drew
   have HF2:Hid (Fresh w wr.drew):=fdrew HF.out
   generalize wr.drew=w2 at HF2
   go_wp2_with (go_at_call 71;refine(eqFormat_same _ _ _).mono ?_;rintro e w3 ⟨rfl,hb3⟩)
   go_roundw
   case rel=>exact⟨k+1,by omega,by go_num,fstep HF2.out hb3⟩
   case measure=>simp[intOf];omega
  ·have hkn:k=l.length:=by omega
   subst hkn
   have HF:=Lib.hid hf
   clear hf
   go_wp2
   go_ret
   exact⟨rfl,HF.out⟩
def okAt (l:List (Int × Int)) (k:Nat):Bool :=
 match l[k]? with
 | none=>false
 | some (x,y)=>(inB x 1 20000 && inB y 1 1000) && (decide (k=0) || (match l[k - 1]? with|none=>false|some (u,v)=>decide (x<u) && decide (v<y)))
theorem okAt_range {l:List (Int × Int)} {k:Nat} {x y:Int} (hx:l[k]?=some (x,y)) (h:(inB x 1 20000 && inB y 1 1000)=false):okAt l k=false:=by simp only[okAt,hx,h,Bool.false_and]
theorem okAt_first {l:List (Int × Int)} {k:Nat} {x y:Int} (hx:l[k]?=some (x,y)) (h:(inB x 1 20000 && inB y 1 1000)=true) (hk:k=0):okAt l k=true:=by
 have h0:decide (k=0)=true:=decide_eq_true hk
 simp only[okAt,hx,h,h0,Bool.true_or,Bool.and_self]
theorem okAt_next {l:List (Int × Int)} {k:Nat} {x y u v:Int} (hx:l[k]?=some (x,y)) (hp:l[k - 1]?=some (u,v)) (h:(inB x 1 20000 && inB y 1 1000)=true) (hk:0<k):okAt l k=(decide (x<u) && decide (v<y)):=by
 have:k≠0:=by omega
 simp[okAt,hx,hp,h,this]
def fmtsB (l:List (Int × Int)):Bool:=(List.range l.length).all (okAt l) && inB l.length 1 6
theorem fmtsB_bad {l:List (Int × Int)} {k:Nat} (hk:k<l.length) (h:okAt l k=false):fmtsB l=false:=by
 unfold fmtsB
 have:(List.range l.length).all (okAt l)=false:=by rw[List.all_eq_false];exact⟨k,List.mem_range.2 hk,by simp[h]⟩
 rw[this,Bool.false_and]
theorem fmtsB_end {l:List (Int × Int)} (h:∀ j,j<l.length→okAt l j=true):fmtsB l=inB l.length 1 6:=by
 unfold fmtsB
 have:(List.range l.length).all (okAt l)=true:=by rw[List.all_eq_true];intro j hj;exact h j (List.mem_range.1 hj)
 rw[this,Bool.true_and]
theorem fmtsB_long {l:List (Int × Int)} (h:6<l.length):fmtsB l=false:=by
 unfold fmtsB;rw[inB_f (by omega),Bool.and_false]
theorem okStep {l:List (Int × Int)} {k:Nat} (h:∀ j,j<k→okAt l j=true) (hk:okAt l k=true):∀ j,j<k+1→okAt l j=true:=by
 intro j hj
 rcases Nat.lt_or_ge j k with h' | h'
 ·exact h j h'
 ·have:j=k:=by omega
  subst this;exact hk
theorem l1In_qf (x a b:Int) (w:World) (n:Nat):Calls Tryz.prog 109 #[.int .i64 x,.int .i64 a,.int .i64 b] (w.drewN n) fun e w'=>e=.returned (.bool (inB x a b))∧w'=w.drewN n :=
 (l1In_any x a b _).mono fun _ _ ⟨h1,h2⟩=>⟨h1,h2.symm⟩
theorem within_qf (x a b:Int) (w:World) (n:Nat):Calls Tryz.prog 125 #[.int .i64 x,.int .i64 a,.int .i64 b] (w.drewN n) fun e w'=>e=.returned (.bool (inB x a b))∧w'=w.drewN n :=
 (within_any x a b _).mono fun _ _ ⟨h1,h2⟩=>⟨h1,h2.symm⟩
theorem prs_prev {w:World} {b off:Nat} {l:List (Int × Int)} (h:Prs w (some ⟨b,off,none⟩) l) {k:Nat} (hk:k<l.length) (h0:0<k) :
  ∃ u v,l[k - 1]?=some (u,v)∧w.cell? ⟨b,off+(k - 1) * 2,none⟩=some (.int .i64 u)∧w.cell? ⟨b,off+(k - 1) * 2+1,none⟩=some (.int .i64 v):=by
 obtain⟨b',off',u,v,he,hx,h1,h2⟩:=h.at (k:=k - 1) (by omega)
 simp at he
 obtain⟨rfl,rfl⟩:=he
 exact⟨u,v,hx,h1,h2⟩
set_option maxHeartbeats 2000000 in
theorem l10Formats_any (p:Option Addr) (cap:Nat) (l:List (Int × Int)) (w:World) (hI:Prs w p l) (hn:l.length≤1048576) :
  Calls Tryz.prog 107 #[.slice p l.length cap] w fun e w'=>e=.returned (.bool (fmtsB l))∧Fresh w w':=by
 go_enter Tryz.func107,Tryz.ntmps107
 go_wp2
 go_loopw [3] (fun i wr=>∃ k:Nat,k≤l.length∧k≤7∧i=.int .i64 k∧(∀ j,j<k→okAt l j=true)∧Fresh w wr) (fun i _=>l.length - (intOf i).toNat)
 case atStart=>exact⟨0,Nat.zero_le _,by omega,rfl,fun j hj=>by omega,frefl _⟩
 case round =>
  obtain⟨k,hk,hk7,rfl,hall,hf⟩:=hrel
  have HA:=Lib.hid hall
  have HF:=Lib.hid hf
  clear hall
  by_cases hlt:k<l.length
  ·by_cases h6:k≤6
   ·have hI1:=hI.keep hf
    clear hf hI
    obtain⟨b,off,x,y,rfl,hx,hc0,hc1⟩:=hI1.at hlt
    have hI2:=Lib.hid hI1
    clear hI1
    have hz:(k:Int)<(l.length:Int):=by omega
    have hz1:(k:Int) - 1<(l.length:Int):=by omega
    have hz2:(k:Int) - 1≤(l.length:Int):=by omega
    cases h1:inB x 1 20000
    ·have hr:(inB x 1 20000 && inB y 1 1000)=false:=by rw[h1];rfl
     have HB:=Lib.hid (fmtsB_bad hlt (okAt_range hx hr))
     clear hx
     go_wp2
     go_quiet ((go_at_call 109;exact Calls.quiet_of_same (l1In_qf _ _ _ _ _)))
     go_wp2
     go_ret
     exact⟨ret_bool (by rw[HB.out]),fdrewN (HF.out) _⟩
    ·cases h2:inB y 1 1000
     ·have hr:(inB x 1 20000 && inB y 1 1000)=false:=by rw[h1,h2];rfl
      have HB:=Lib.hid (fmtsB_bad hlt (okAt_range hx hr))
      clear hx
      go_wp2
      go_quiet ((go_at_call 109;exact Calls.quiet_of_same (l1In_qf _ _ _ _ _)))
      go_wp2
      go_ret
      exact⟨ret_bool (by rw[HB.out]),fdrewN (HF.out) _⟩
     ·have hr:(inB x 1 20000 && inB y 1 1000)=true:=by rw[h1,h2];rfl
      by_cases h3:0<k
      ·have hd3:decide ((0:Int)<(k:Int))=true:=decide_eq_true (by omega)
       obtain⟨u,v,hp,hq0,hq1⟩:=prs_prev hI2.out hlt h3
       by_cases h4:u≤x
       ·have hd4:decide (u≤x)=true:=decide_eq_true h4
        have h5:okAt l k=false:=by rw[okAt_next hx hp hr h3];simp;omega
        have HB:=Lib.hid (fmtsB_bad hlt (h5))
        clear hx hp h5
        go_wp2
        go_quiet ((go_at_call 109;exact Calls.quiet_of_same (l1In_qf _ _ _ _ _)))
        go_wp2
        go_ret
        exact⟨ret_bool (by rw[HB.out]),fdrewN (HF.out) _⟩
       ·have hd4:decide (u≤x)=false:=decide_eq_false h4
        by_cases h6:y≤v
        ·have hd6:decide (y≤v)=true:=decide_eq_true h6
         have h5:okAt l k=false:=by rw[okAt_next hx hp hr h3];simp;omega
         have HB:=Lib.hid (fmtsB_bad hlt (h5))
         clear hx hp h5
         go_wp2
         go_quiet ((go_at_call 109;exact Calls.quiet_of_same (l1In_qf _ _ _ _ _)))
         go_wp2
         go_ret
         exact⟨ret_bool (by rw[HB.out]),fdrewN (HF.out) _⟩
        ·have hd6:decide (y≤v)=false:=decide_eq_false h6
         have h5:okAt l k=true:=by rw[okAt_next hx hp hr h3];simp;omega
         have HB:=Lib.hid (okStep HA.out (h5))
         clear hx hp h5
         go_wp2
         go_quiet ((go_at_call 109;exact Calls.quiet_of_same (l1In_qf _ _ _ _ _)))
         go_wp2
         go_roundw
         case rel=>exact⟨k+1,by omega,by omega,by go_num,HB.out,fdrewN (HF.out) _⟩
         case measure=>simp[intOf];omega
      ·have hd3:decide ((0:Int)<(k:Int))=false:=decide_eq_false (by omega)
       have h5:okAt l k=true:=okAt_first hx hr (by omega)
       have HB:=Lib.hid (okStep HA.out (h5))
       clear hx h5
       go_wp2
       go_quiet ((go_at_call 109;exact Calls.quiet_of_same (l1In_qf _ _ _ _ _)))
       go_wp2
       go_roundw
       case rel=>exact⟨k+1,by omega,by omega,by go_num,HB.out,fdrewN (HF.out) _⟩
       case measure=>simp[intOf];omega
   ·have HB:=Lib.hid (fmtsB_long (l:=l) (by omega))
    clear hf
    have h40:(6:Int)<(l.length:Int):=by omega
    have hin:=Lib.hid (inB_f (x:=(l.length:Int)) (a:=1) (b:=6) (by omega))
    go_wp2_with (go_at_call 109;refine(l1In_any _ _ _ _).mono ?_;rintro e w' ⟨rfl,rfl⟩)
    go_ret
    exact⟨ret_bool (by rw[HB.out];exact hin.out),HF.out⟩
  ·have hkn:k=l.length:=by omega
   have HB:=Lib.hid (fmtsB_end (l:=l) (by rw[← hkn];exact HA.out))
   clear hf
   subst hkn
   go_wp2_with (go_at_call 109;refine(l1In_any _ _ _ _).mono ?_;rintro e w' ⟨rfl,rfl⟩)
   go_ret
   exact⟨ret_bool (by rw[HB.out]),HF.out⟩
set_option maxHeartbeats 2000000 in
theorem implIsValidFormats_any (p:Option Addr) (cap:Nat) (l:List (Int × Int)) (w:World) (hI:Prs w p l) (hn:l.length≤1048576) :
  Calls Tryz.prog 128 #[.slice p l.length cap] w fun e w'=>e=.returned (.bool (fmtsB l))∧Fresh w w':=by
 go_enter Tryz.func128,Tryz.ntmps128
 go_wp2
 go_loopw [7] (fun i wr=>∃ k:Nat,k≤l.length∧i=.int .i64 k∧(∀ j,j<k→okAt l j=true)∧Fresh w wr) (fun i _=>l.length - (intOf i).toNat)
 case atStart=>exact⟨0,Nat.zero_le _,rfl,fun j hj=>by omega,frefl _⟩
 case round =>
  obtain⟨k,hk,rfl,hall,hf⟩:=hrel
  have HA:=Lib.hid hall
  have HF:=Lib.hid hf
  clear hall
  by_cases hlt:k<l.length
  ·have hI1:=hI.keep hf
   clear hf hI
   obtain⟨b,off,x,y,rfl,hx,hc0,hc1⟩:=hI1.at hlt
   have hbl:b<wr.heap.size:=World.block_lt_of_cell? wr _ hc0
   have hI2:=Lib.hid hI1
   clear hI1
   have hz:(k:Int)<(l.length:Int):=by omega
   have hz1:(k:Int) - 1<(l.length:Int):=by omega
   have hz2:(k:Int) - 1≤(l.length:Int):=by omega
   cases h1:inB x 1 20000
   ·have hr:(inB x 1 20000 && inB y 1 1000)=false:=by rw[h1];rfl
    have HB:=Lib.hid (fmtsB_bad hlt (okAt_range hx hr))
    clear hx
    go_wp2
    go_quiet ((go_at_call 125;exact Calls.quiet_of_same (within_qf _ _ _ _ _)))
    go_wp2
    go_ret
    exact⟨ret_bool (by rw[HB.out]),fdrewN (fnew HF.out _) _⟩
   ·cases h2:inB y 1 1000
    ·have hr:(inB x 1 20000 && inB y 1 1000)=false:=by rw[h1,h2];rfl
     have HB:=Lib.hid (fmtsB_bad hlt (okAt_range hx hr))
     clear hx
     go_wp2
     go_quiet ((go_at_call 125;exact Calls.quiet_of_same (within_qf _ _ _ _ _)))
     go_wp2
     go_ret
     exact⟨ret_bool (by rw[HB.out]),fdrewN (fnew HF.out _) _⟩
    ·have hr:(inB x 1 20000 && inB y 1 1000)=true:=by rw[h1,h2];rfl
     by_cases h3:0<k
     ·have hd3:decide ((0:Int)<(k:Int))=true:=decide_eq_true (by omega)
      obtain⟨u,v,hp,hq0,hq1⟩:=prs_prev hI2.out hlt h3
      by_cases h4:u≤x
      ·have hd4:decide (u≤x)=true:=decide_eq_true h4
       have h5:okAt l k=false:=by rw[okAt_next hx hp hr h3];simp;omega
       have HB:=Lib.hid (fmtsB_bad hlt (h5))
       clear hx hp h5
       go_wp2
       go_quiet ((go_at_call 125;exact Calls.quiet_of_same (within_qf _ _ _ _ _)))
       go_wp2
       go_ret
       exact⟨ret_bool (by rw[HB.out]),fdrewN (fnew HF.out _) _⟩
      ·have hd4:decide (u≤x)=false:=decide_eq_false h4
       by_cases h6:y≤v
       ·have hd6:decide (y≤v)=true:=decide_eq_true h6
        have h5:okAt l k=false:=by rw[okAt_next hx hp hr h3];simp;omega
        have HB:=Lib.hid (fmtsB_bad hlt (h5))
        clear hx hp h5
        go_wp2
        go_quiet ((go_at_call 125;exact Calls.quiet_of_same (within_qf _ _ _ _ _)))
        go_wp2
        go_ret
        exact⟨ret_bool (by rw[HB.out]),fdrewN (fnew HF.out _) _⟩
       ·have hd6:decide (y≤v)=false:=decide_eq_false h6
        have h5:okAt l k=true:=by rw[okAt_next hx hp hr h3];simp;omega
        have HB:=Lib.hid (okStep HA.out (h5))
        clear hx hp h5
        go_wp2
        go_quiet ((go_at_call 125;exact Calls.quiet_of_same (within_qf _ _ _ _ _)))
        go_wp2
        go_roundw
        case rel=>exact⟨k+1,by omega,by go_num,HB.out,fdrewN (fnew HF.out _) _⟩
        case measure=>simp[intOf];omega
     ·have hd3:decide ((0:Int)<(k:Int))=false:=decide_eq_false (by omega)
      have h5:okAt l k=true:=okAt_first hx hr (by omega)
      have HB:=Lib.hid (okStep HA.out (h5))
      clear hx h5
      go_wp2
      go_quiet ((go_at_call 125;exact Calls.quiet_of_same (within_qf _ _ _ _ _)))
      go_wp2
      go_roundw
      case rel=>exact⟨k+1,by omega,by go_num,HB.out,fdrewN (fnew HF.out _) _⟩
      case measure=>simp[intOf];omega
  ·have hkn:k=l.length:=by omega
   have HB:=Lib.hid (fmtsB_end (l:=l) (by rw[← hkn];exact HA.out))
   clear hf
   subst hkn
   go_wp2_with (go_at_call 125;refine(within_any _ _ _ _).mono ?_;rintro e w' ⟨rfl,rfl⟩)
   go_ret
   exact⟨ret_bool (by rw[HB.out]),HF.out⟩
def bestTo (l:List (Int × Int)) (n:Int):Nat→Int
 | 0=>-1
 | k+1=>if n≤(l.getD k (0,0)).1 then (k:Int) else bestTo l n k
def bestI (l:List (Int × Int)) (n:Int):Int:=bestTo l n l.length
theorem bestTo_yes {l:List (Int × Int)} {n:Int} {k:Nat} {x y:Int} (hx:l[k]?=some (x,y)) (h:n≤x):bestTo l n (k+1)=(k:Int):=by simp[bestTo,List.getD,hx,h]
theorem bestTo_no {l:List (Int × Int)} {n:Int} {k:Nat} {x y:Int} (hx:l[k]?=some (x,y)) (h:¬ n≤x):bestTo l n (k+1)=bestTo l n k:=by simp[bestTo,List.getD,hx,h]
theorem bestTo_bound (l:List (Int × Int)) (n:Int):∀ k,-1≤bestTo l n k∧bestTo l n k<k:=by
 intro k
 induction k with
 | zero=>simp[bestTo]
 | succ k ih=>unfold bestTo;split <;> omega
theorem bestI_bound (l:List (Int × Int)) (n:Int):-1≤bestI l n∧bestI l n<l.length:=bestTo_bound l n l.length
set_option maxHeartbeats 1000000 in
theorem l10Best_any (p:Option Addr) (cap:Nat) (l:List (Int × Int)) (n:Int) (w:World) (hI:Prs w p l) (hn:l.length≤1048576) :
  Calls Tryz.prog 191 #[.slice p l.length cap,.int .i64 n] w fun e w'=>e=.returned (.int .i64 (bestI l n))∧w=w':=by
 go_enter Tryz.func191,Tryz.ntmps191
 go_wp2
 go_loop [5,6] (fun b i=>∃ k:Nat,k≤l.length∧i=.int .i64 k∧b=.int .i64 (bestTo l n k)) (fun _ i=>l.length - (intOf i).toNat)
 case atStart=>exact⟨0,Nat.zero_le _,rfl,rfl⟩
 case round =>
  obtain⟨k,hk,rfl,rfl⟩:=hrel
  by_cases hlt:k<l.length
  ·obtain⟨b,off,x,y,rfl,hx,hc0,hc1⟩:=hI.at hlt
   clear hI hc1
   by_cases hge:n≤x
   ·have HB:=Lib.hid (bestTo_yes hx hge)
    clear hx
    go_wp2
    go_round
    case rel=>exact⟨k+1,by omega,by go_num,by rw[HB.out]⟩
    case measure=>simp[intOf];omega
   ·have HB:=Lib.hid (bestTo_no hx hge)
    clear hx
    go_wp2
    go_round
    case rel=>exact⟨k+1,by omega,by go_num,by rw[HB.out]⟩
    case measure=>simp[intOf];omega
  ·have hkn:k=l.length:=by omega
   subst hkn
   go_wp2
   go_ret
   exact⟨rfl,rfl⟩
def fmtFor (l:List (Int × Int)) (n:Int):Int × Bool:=if fmtsB l && inB n 0 20000 && decide (0≤bestI l n) then (bestI l n,true) else (0,false)
theorem fmtFor_no {l:List (Int × Int)} {n:Int} (h:(fmtsB l && inB n 0 20000)=false):fmtFor l n=(0,false):=by simp[fmtFor,h]
theorem fmtFor_none {l:List (Int × Int)} {n:Int} (h:bestI l n<0):fmtFor l n=(0,false):=by
 have:decide (0≤bestI l n)=false:=decide_eq_false (by omega)
 simp[fmtFor,this]
theorem fmtFor_yes {l:List (Int × Int)} {n:Int} (h:(fmtsB l && inB n 0 20000)=true) (hb:0≤bestI l n):fmtFor l n=(bestI l n,true):=by simp[fmtFor,h,hb]
set_option maxHeartbeats 1000000 in
theorem implFormatFor_any (p:Option Addr) (cap:Nat) (l:List (Int × Int)) (n:Int) (w:World) (hI:Prs w p l) (hn:l.length≤1048576) :
  Calls Tryz.prog 195 #[.slice p l.length cap,.int .i64 n] w fun e w'=>e=.returned (.tuple #[.int .i64 (fmtFor l n).1,.bool (fmtFor l n).2])∧Fresh w w':=by
 cases h1:fmtsB l
 ·have HP:=Lib.hid (fmtFor_no (l:=l) (n:=n) (by rw[h1];rfl))
  go_enter Tryz.func195,Tryz.ntmps195
  go_wp2_with (go_at_call 128;refine(implIsValidFormats_any _ _ _ _ hI hn).mono ?_;rintro e w1 ⟨rfl,hb1⟩)
  go_ret2
  exact⟨by rw[HP.out];rfl,hb1⟩
 ·cases h2:inB n 0 20000
  ·have HP:=Lib.hid (fmtFor_no (l:=l) (n:=n) (by rw[h1,h2];rfl))
   go_enter Tryz.func195,Tryz.ntmps195
   go_wp2_with (first|(go_at_call 128;refine(implIsValidFormats_any _ _ _ _ hI hn).mono ?_;rintro e w1 ⟨rfl,hb1⟩)|(go_at_call 125;refine(within_any _ _ _ _).mono ?_;rintro e w' ⟨rfl,rfl⟩))
   go_ret2
   exact⟨by rw[HP.out];rfl,hb1⟩
  ·have HQ:=Lib.hid (fmtFor_yes (l:=l) (n:=n) (by rw[h1,h2];rfl))
   go_enter Tryz.func195,Tryz.ntmps195
   go_wp2_with fail
   refine(implIsValidFormats_any _ _ _ _ hI hn).mono ?_;rintro e w1 ⟨rfl,hb1⟩
   have hI1:=hI.keep hb1
   clear hI
   go_wp2_with (go_at_call 125;refine(within_any _ _ _ _).mono ?_;rintro e w' ⟨rfl,rfl⟩)
   go_loop [6] (fun i=>∃ k:Nat,k≤l.length∧i=.int .i64 ((k:Int) - 1)∧bestI l n=bestTo l n k) (fun i=>(intOf i+1).toNat)
   case atStart=>exact⟨l.length,Nat.le_refl _,rfl,rfl⟩
   case round =>
    obtain⟨k,hk,rfl,hb⟩:=hrel
    have HB:=Lib.hid hb
    clear hb
    by_cases hlt:0<k
    ·obtain⟨b,off,x,y,rfl,hx,hc0,hc1⟩:=hI1.at (k:=k - 1) (by omega)
     clear hI1 hc1
     have hk1:k - 1+1=k:=by omega
     have hz:(k:Int) - 1<(l.length:Int):=by omega
     by_cases hge:n≤x
     ·have HX:=Lib.hid (bestTo_yes hx hge)
      have HK:=Lib.hid hk1
      clear hx hk1
      go_wp2
      go_ret2
      refine⟨?_,hb1⟩
      have e:=HX.out
      rw[HK.out,← HB.out] at e
      have ek:((k - 1:Nat):Int)=(k:Int) - 1:=by omega
      rw[HQ.out (by rw[e];omega),e,ek];rfl
     ·have HX:=Lib.hid (bestTo_no hx hge)
      have HK:=Lib.hid hk1
      clear hx hk1
      go_wp2
      go_round
      case rel =>
       refine⟨k - 1,by omega,by go_num,?_⟩
       have e:=HX.out
       rw[HK.out] at e
       rw[HB.out,e]
      case measure=>simp[intOf];omega
    ·have hk0:k=0:=by omega
     subst hk0
     have HP:=Lib.hid (fmtFor_none (l:=l) (n:=n) (by rw[HB.out];simp[bestTo]))
     go_wp2
     go_ret2
     exact⟨by rw[HP.out];rfl,hb1⟩
def rateAt (l:List (Int × Int)) (i:Int):Int:=(l.getD i.toNat (0,0)).2
theorem rateAt_range {l:List (Int × Int)} {i:Int} (h:fmtsB l=true) (h0:0≤i) (h1:i<l.length):1≤rateAt l i∧rateAt l i≤1000:=by
 unfold fmtsB at h
 rw[Bool.and_eq_true,List.all_eq_true] at h
 have hk:=h.1 i.toNat (List.mem_range.2 (by omega))
 have hlt:i.toNat<l.length:=by omega
 have hx:l[i.toNat]?=some l[i.toNat]:=List.getElem?_eq_getElem hlt
 unfold rateAt
 simp only[List.getD,hx,Option.getD_some]
 simp only[okAt,hx,Bool.and_eq_true] at hk
 exact inB_iff.1 hk.1.2
def slotsN (l:List (Int × Int)) (n r:Int):Int :=
 if bestI l n<0 then 0 else (if 24<(r+rateAt l (bestI l n) - 1) / rateAt l (bestI l n) then 0 else (r+rateAt l (bestI l n) - 1) / rateAt l (bestI l n))
def slotsF (l:List (Int × Int)) (n r:Int):Int × Bool:=if ((fmtsB l && inB n 0 20000) && inB r 1 1000) && !(slotsN l n r == 0) then (slotsN l n r,true) else (0,false)
theorem slotsF_no {l:List (Int × Int)} {n r:Int} (h:((fmtsB l && inB n 0 20000) && inB r 1 1000)=false):slotsF l n r=(0,false):=by simp[slotsF,h]
theorem slotsF_zero {l:List (Int × Int)} {n r:Int} (h:slotsN l n r=0):slotsF l n r=(0,false):=by simp[slotsF,h]
theorem slotsF_yes {l:List (Int × Int)} {n r:Int} (h:((fmtsB l && inB n 0 20000) && inB r 1 1000)=true) (hs:slotsN l n r≠0):slotsF l n r=(slotsN l n r,true):=by simp[slotsF,h,hs]
theorem slotsN_none {l:List (Int × Int)} {n r:Int} (h:bestI l n<0):slotsN l n r=0:=by simp[slotsN,h]
theorem slotsN_many {l:List (Int × Int)} {n r:Int} (h:24<(r+rateAt l (bestI l n) - 1) / rateAt l (bestI l n)):slotsN l n r=0:=by simp[slotsN,h]
theorem slotsN_some {l:List (Int × Int)} {n r:Int} (h0:¬ bestI l n<0) (h:¬ 24<(r+rateAt l (bestI l n) - 1) / rateAt l (bestI l n)):slotsN l n r=(r+rateAt l (bestI l n) - 1) / rateAt l (bestI l n):=by
 unfold slotsN;rw[if_neg h0,if_neg h]
theorem quo_pos {r q:Int} (hr:1≤r) (hq:1≤q):1≤(r+q - 1) / q:=by
 apply Int.le_ediv_of_mul_le (by omega);omega
theorem prs_rate {w:World} {p:Option Addr} {l:List (Int × Int)} {i:Int} (h:Prs w p l) (h0:0≤i) (h1:i<l.length) :
  ∃ b off,p=some ⟨b,off,none⟩∧w.cell? ⟨b,off+i.toNat * 2+1,none⟩=some (.int .i64 (rateAt l i)):=by
 obtain⟨b,off,x,y,hp,hx,_,hc⟩:=h.at (k:=i.toNat) (by omega)
 refine⟨b,off,hp,?_⟩
 unfold rateAt
 simp only[List.getD,hx,Option.getD_some]
 exact hc
set_option maxHeartbeats 1000000 in
theorem l10Slots_any (p:Option Addr) (cap:Nat) (l:List (Int × Int)) (n r:Int) (w:World) (hI:Prs w p l) (hn:l.length≤1048576) (hv:fmtsB l=true) (hr:1≤r∧r≤1000) :
  Calls Tryz.prog 155 #[.slice p l.length cap,.int .i64 n,.int .i64 r] w fun e w'=>e=.returned (.int .i64 (slotsN l n r))∧Fresh w w':=by
 obtain⟨r1,r2⟩:=hr
 have hbd:=bestI_bound l n
 by_cases h0:bestI l n<0
 ·have HS:=Lib.hid (slotsN_none (r:=r) h0)
  go_enter Tryz.func155,Tryz.ntmps155
  go_wp2_with (go_at_call 191;refine(l10Best_any _ _ _ _ _ hI hn).mono ?_;rintro e w' ⟨rfl,rfl⟩)
  go_ret
  exact⟨by rw[HS.out];rfl,frefl _⟩
 ·obtain⟨q1,q2⟩:=rateAt_range hv (i:=bestI l n) (by omega) hbd.2
  obtain⟨b,off,rfl,hc⟩:=prs_rate hI (i:=bestI l n) (by omega) hbd.2
  have HM:=Lib.hid (slotsN_many (l:=l) (n:=n) (r:=r))
  have HS:=Lib.hid (slotsN_some (l:=l) (n:=n) (r:=r) h0)
  have HI:=Lib.hid hI
  have HV:=Lib.hid hv
  clear hI hv
  generalize hq:rateAt l (bestI l n)=q at *
  have HQ:=Lib.hid hq
  clear hq
  generalize hi:bestI l n=i at *
  have HB:=Lib.hid hi
  clear hi
  by_cases hm:24<(r+q - 1) / q
  all_goals
   go_enter Tryz.func155,Tryz.ntmps155
   go_wp2_with fail
   refine(l10Best_any _ _ _ _ _ HI.out hn).mono ?_;rw[HB.out];rintro e w' ⟨rfl,rfl⟩
   go_wp2
   go_quiet (fail)
   go_wp2
   go_ret
  ·exact⟨by rw[HM.out hm];rfl,fdrewN (frefl _) _⟩
  ·exact⟨by rw[HS.out hm];rfl,fdrewN (frefl _) _⟩
theorem slotsN_pos {l:List (Int × Int)} {n r:Int} (hv:fmtsB l=true) (hr:1≤r) (h:slotsN l n r≠0):1≤slotsN l n r∧slotsN l n r≤24:=by
 unfold slotsN at *
 split at h
 ·exact absurd rfl h
 ·rename_i h0
  split at h
  ·exact absurd rfl h
  ·rename_i h1
   rw[if_neg h0,if_neg h1]
   have hb:=bestI_bound l n
   exact⟨quo_pos hr (rateAt_range hv (by omega) hb.2).1,by omega⟩
set_option maxHeartbeats 1000000 in
theorem implSlotsFor_any (p:Option Addr) (cap:Nat) (l:List (Int × Int)) (n r:Int) (w:World) (hI:Prs w p l) (hn:l.length≤1048576) :
  Calls Tryz.prog 165 #[.slice p l.length cap,.int .i64 n,.int .i64 r] w fun e w'=>e=.returned (.tuple #[.int .i64 (slotsF l n r).1,.bool (slotsF l n r).2])∧Fresh w w':=by
 cases h1:(fmtsB l && inB n 0 20000)
 ·have HP:=Lib.hid (slotsF_no (l:=l) (n:=n) (r:=r) (by rw[h1];rfl))
  have HF:=Lib.hid (fmtFor_no h1)
  go_enter Tryz.func165,Tryz.ntmps165
  go_wp2_with fail
  refine(implFormatFor_any _ _ _ _ _ hI hn).mono ?_;rw[HF.out];rintro e w1 ⟨rfl,hb1⟩
  go_wp2
  go_ret2
  exact⟨by rw[HP.out];rfl,hb1⟩
 ·have hv:fmtsB l=true:=by rw[Bool.and_eq_true] at h1;exact h1.1
  have hbd:=bestI_bound l n
  by_cases h0:bestI l n<0
  ·have HP:=Lib.hid (slotsF_zero (l:=l) (n:=n) (r:=r) (slotsN_none h0))
   have HF:=Lib.hid (fmtFor_none h0)
   clear hbd h0
   go_enter Tryz.func165,Tryz.ntmps165
   go_wp2_with fail
   refine(implFormatFor_any _ _ _ _ _ hI hn).mono ?_;rw[HF.out];rintro e w1 ⟨rfl,hb1⟩
   go_wp2
   go_ret2
   exact⟨by rw[HP.out];rfl,hb1⟩
  ·have HF:=Lib.hid (fmtFor_yes h1 (by omega))
   cases h3:inB r 1 1000
   ·have HP:=Lib.hid (slotsF_no (l:=l) (n:=n) (r:=r) (by rw[h1,h3];rfl))
    clear hbd h0 h1
    go_enter Tryz.func165,Tryz.ntmps165
    go_wp2_with fail
    refine(implFormatFor_any _ _ _ _ _ hI hn).mono ?_;rw[HF.out];rintro e w1 ⟨rfl,hb1⟩
    go_wp2_with (go_at_call 125;refine(within_any _ _ _ _).mono ?_;rintro e w' ⟨rfl,rfl⟩)
    go_ret2
    exact⟨by rw[HP.out];rfl,hb1⟩
   ·obtain⟨r1,r2⟩:=inB_iff.1 h3
    obtain⟨q1,q2⟩:=rateAt_range hv (i:=bestI l n) (by omega) hbd.2
    have HM:=Lib.hid (fun h=>slotsF_zero (slotsN_many (l:=l) (n:=n) (r:=r) h))
    have hpos:=quo_pos r1 q1
    have HS:=Lib.hid (fun h=>slotsF_yes (l:=l) (n:=n) (r:=r) (by rw[h1,h3];rfl) (by rw[slotsN_some h0 h];omega))
    have HT:=Lib.hid (slotsN_some (l:=l) (n:=n) (r:=r) h0)
    have hlo:0≤bestI l n:=by omega
    have HG:=Lib.hid (fun (w1:World) (h:Prs w1 p l)=>prs_rate h hlo hbd.2)
    have HI:=Lib.hid hI
    clear hI hv h1
    generalize hq:rateAt l (bestI l n)=q at *
    clear hq
    generalize hi:bestI l n=i at *
    clear hi
    by_cases hm:24<(r+q - 1) / q
    ·go_enter Tryz.func165,Tryz.ntmps165
     go_wp2_with fail
     refine(implFormatFor_any _ _ _ _ _ HI.out hn).mono ?_;rw[HF.out];rintro e w1 ⟨rfl,hb1⟩
     obtain⟨b,off,rfl,hc⟩:=HG.out w1 (HI.out.keep hb1)
     go_wp2_with (go_at_call 125;refine(within_any _ _ _ _).mono ?_;rintro e w' ⟨rfl,rfl⟩)
     go_quiet (fail)
     go_wp2
     go_ret2
     exact⟨by rw[HM.out hm];rfl,fdrewN hb1 _⟩
    ·go_enter Tryz.func165,Tryz.ntmps165
     go_wp2_with fail
     refine(implFormatFor_any _ _ _ _ _ HI.out hn).mono ?_;rw[HF.out];rintro e w1 ⟨rfl,hb1⟩
     obtain⟨b,off,rfl,hc⟩:=HG.out w1 (HI.out.keep hb1)
     go_wp2_with (go_at_call 125;refine(within_any _ _ _ _).mono ?_;rintro e w' ⟨rfl,rfl⟩)
     go_quiet (fail)
     go_wp2
     go_ret2
     exact⟨by rw[HS.out hm,HT.out hm];rfl,fdrewN hb1 _⟩
end Go.Proofs.YteckjlkhopkogaaGreat
