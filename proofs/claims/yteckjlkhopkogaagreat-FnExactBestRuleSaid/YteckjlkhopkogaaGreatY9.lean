/- Texts of mine laid together (Mk, RunsB, Fit, BestB, Best2B, Fit3, SpcPB). -/
import Derived.Test.YteckjlkhopkogaaGreatU1
import Derived.Test.YteckjlkhopkogaaGreatU4
import Derived.Test.YteckjlkhopkogaaGreatM1
namespace Go.Proofs.YteckjlkhopkogaaGreat
open Go.RowKit
def maskB (m:Int):Bool:=inB m 0 16777215
set_option maxHeartbeats 400000 in
theorem isMask_any (m:Int) (w:World) :
  Calls Tryz.prog 219 #[.int .i64 m] w fun e w'=>e=.returned (.bool (maskB m))∧w=w':=by
 go_enter Tryz.func219,Tryz.ntmps219
 go_wp2_with (go_at_call 125;refine(within_any _ _ _ _).mono ?_;rintro e w' ⟨rfl,rfl⟩)
 go_ret
 exact⟨rfl,rfl⟩
def freeS (m:Int) (k:Nat):Bool:=decide (k<24) && (bits BinOp.and IntKind.i64 (m / 2 ^ k) 1 == 0)
theorem freeS_end {m:Int} {k:Nat} (h:¬ k<24):freeS m k=false:=by simp[freeS,h]
def runsTo (m:Int):Nat→List (Int × Int) × Nat
 | 0=>([],0)
 | k+1=>if freeS m k then ((runsTo m k).1,(runsTo m k).2+1) else (if (runsTo m k).2=0 then (runsTo m k).1 else (runsTo m k).1++[((k:Int) - ((runsTo m k).2:Int),((runsTo m k).2:Int))],0)
def runs (m:Int):List (Int × Int):=(runsTo m 25).1
theorem runsTo_free {m:Int} {k:Nat} {l:List (Int × Int)} {c:Nat} (h:runsTo m k=(l,c)) (hf:freeS m k=true):runsTo m (k+1)=(l,c+1):=by simp[runsTo,h,hf]
theorem runsTo_same {m:Int} {k:Nat} {l:List (Int × Int)} (h:runsTo m k=(l,0)) (hf:freeS m k=false):runsTo m (k+1)=(l,0):=by simp[runsTo,h,hf]
theorem runsTo_run {m:Int} {k:Nat} {l:List (Int × Int)} {c:Nat} (h:runsTo m k=(l,c)) (hf:freeS m k=false) (hc:0<c):runsTo m (k+1)=(l++[((k:Int) - (c:Int),(c:Int))],0):=by
 have:c≠0:=by omega
 simp[runsTo,h,hf,this]
theorem runsTo_le (m:Int):∀ (k:Nat) {l:List (Int × Int)} {c:Nat},runsTo m k=(l,c)→l.length≤k∧c≤k:=by
 intro k
 induction k with
 | zero=>intro l c h;simp[runsTo] at h;obtain⟨rfl,rfl⟩:=h;simp
 | succ k ih =>
  intro l c h
  rcases hr:runsTo m k with⟨l',c'⟩
  obtain⟨i1,i2⟩:=ih hr
  cases hf:freeS m k
  ·rcases Nat.eq_zero_or_pos c' with rfl|hc
   ·rw[runsTo_same hr hf] at h;simp at h;obtain⟨rfl,rfl⟩:=h;omega
   ·rw[runsTo_run hr hf hc] at h;simp only[Prod.mk.injEq] at h;obtain⟨rfl,rfl⟩:=h;simp;omega
  ·rw[runsTo_free hr hf] at h;simp at h;obtain⟨rfl,rfl⟩:=h;omega
theorem runs_end {m:Int} {k:Nat} {l:List (Int × Int)} (h:runsTo m k=(l,0)) (h1:24≤k) (h2:k≤25):runs m=l:=by
 unfold runs
 rcases Nat.eq_or_lt_of_le h2 with rfl|h3
 ·rw[h]
 ·have:k=24:=by omega
  subst this
  rw[runsTo_same h (freeS_end (by omega))]
theorem runs_len (m:Int):(runs m).length≤25:=by
 unfold runs
 exact(runsTo_le m 25 (l:=(runsTo m 25).1) (c:=(runsTo m 25).2) rfl).1
def OutBlks (w:World) (L:List (Int × Int)) (e:Ending) (w':World):Prop:=∃ p cap,e=.returned (.slice p L.length cap)∧Own w' w.heap.size 92 p (pcs L)∧Fresh w w'
set_option maxHeartbeats 1000000 in
theorem l8Runs_any (m:Int) (w:World) (_h0:0≤m) :
  Calls Tryz.prog 192 #[.int .i64 m] w (OutBlks w (runs m)):=by
 go_enter Tryz.func192,Tryz.ntmps192
 go_wp2
 go_loopw [3,4,5] (fun v cnt s wr=>∃ (k c:Nat) (l:List (Int × Int)),k≤25∧s=.int .i64 k∧cnt=.int .i64 c∧runsTo m k=(l,c)∧(k=25→c=0)∧wr.ownsRow w.heap.size 92 2 v l.length (pcs l)∧Fresh w wr) (fun _ _ s _=>25 - (intOf s).toNat)
 case atStart=>exact⟨0,0,[],by omega,rfl,rfl,rfl,by omega,World.ownsRow_made w #[] 0 (Nat.le_refl _) (by simp[maxLen]) rfl,fnew (frefl _) _⟩
 case round =>
  obtain⟨k,c,l,hk,rfl,rfl,hl,hend,hown,hf⟩:=hrel
  have HF:=Lib.hid hf
  obtain⟨hle,hlc⟩:=runsTo_le m k hl
  have HL:=Lib.hid hl
  have HO:=Lib.hid hown
  clear hf hl hown
  by_cases hk24:k≤24
  ·cases hfr:freeS m k
   ·have HR:=Lib.hid hfr
    by_cases hc:0<c
    ·by_cases hlt:k<24
     ·have hd:decide ((k:Int)<24)=true:=decide_eq_true (by omega)
      have ht:(bits BinOp.and IntKind.i64 (m / 2 ^ k) 1 == 0)=false:=by simpa [freeS,hlt] using hfr
      clear hfr hend
      go_wp2_with (at_builtin;refine wpList_app_prs Tryz.underlying211 infoBlk w _ _ l (k - c) c rfl _ _ rfl rfl HO.out rfl (by omega) HF.out ?_;intro v' w2 hown2 hf2)
      have HO2:=Lib.hid hown2
      have HF2:=Lib.hid hf2
      clear hown2 hf2
      go_wp2
      go_roundw
      case rel=>exact⟨k+1,0,l++[((k:Int) - (c:Int),(c:Int))],by omega,by go_num,rfl,runsTo_run HL.out HR.out hc,fun _=>rfl,HO2.out,HF2.out⟩
      case measure=>simp[intOf];omega
     ·clear hfr hend
      go_wp2_with (at_builtin;refine wpList_app_prs Tryz.underlying211 infoBlk w _ _ l (k - c) c rfl _ _ rfl rfl HO.out rfl (by omega) HF.out ?_;intro v' w2 hown2 hf2)
      have HO2:=Lib.hid hown2
      have HF2:=Lib.hid hf2
      clear hown2 hf2
      go_wp2
      go_roundw
      case rel=>exact⟨k+1,0,l++[((k:Int) - (c:Int),(c:Int))],by omega,by go_num,rfl,runsTo_run HL.out HR.out hc,fun _=>rfl,HO2.out,HF2.out⟩
      case measure=>simp[intOf];omega
    ·have hc0:c=0:=by omega
     subst hc0
     by_cases hlt:k<24
     ·have hd:decide ((k:Int)<24)=true:=decide_eq_true (by omega)
      have ht:(bits BinOp.and IntKind.i64 (m / 2 ^ k) 1 == 0)=false:=by simpa [freeS,hlt] using hfr
      clear hfr hend
      go_wp2
      go_roundw
      case rel=>exact⟨k+1,0,l,by omega,by go_num,rfl,runsTo_same HL.out HR.out,fun _=>rfl,HO.out,HF.out⟩
      case measure=>simp[intOf];omega
     ·clear hfr hend
      go_wp2
      go_roundw
      case rel=>exact⟨k+1,0,l,by omega,by go_num,rfl,runsTo_same HL.out HR.out,fun _=>rfl,HO.out,HF.out⟩
      case measure=>simp[intOf];omega
   ·have HR:=Lib.hid hfr
    have hlt:k<24:=by
     rcases Nat.lt_or_ge k 24 with h|h
     ·exact h
     ·rw[freeS_end (by omega)] at hfr;cases hfr
    have hd:decide ((k:Int)<24)=true:=decide_eq_true (by omega)
    have ht:(bits BinOp.and IntKind.i64 (m / 2 ^ k) 1 == 0)=true:=by simpa [freeS,hlt] using hfr
    clear hfr hend
    go_wp2
    go_roundw
    case rel=>exact⟨k+1,c+1,l,by omega,by go_num,by go_num,runsTo_free HL.out HR.out,by omega,HO.out,HF.out⟩
    case measure=>simp[intOf];omega
  ·have hk25:k=25:=by omega
   subst hk25
   have hc0:c=0:=hend rfl
   subst hc0
   clear hend
   obtain⟨p,cap,rfl,ho⟩:=own_of_row HO.out
   have HO2:=Lib.hid ho
   clear ho
   have HE:=Lib.hid (runs_end HL.out (by omega) (by omega))
   go_wp2
   go_ret
   rw[HE.out]
   exact⟨p,cap,rfl,HO2.out,HF.out⟩
set_option maxHeartbeats 1000000 in
theorem freeRuns_any (m:Int) (w:World) (_h0:0≤m) :
  Calls Tryz.prog 199 #[.int .i64 m] w (OutBlks w (runs m)):=by
 go_enter Tryz.func199,Tryz.ntmps199
 go_wp2
 go_loopw [3,4] (fun v s wr=>∃ (k:Nat) (l:List (Int × Int)),k≤25∧s=.int .i64 k∧runsTo m k=(l,0)∧wr.ownsRow w.heap.size 92 2 v l.length (pcs l)∧Fresh w wr) (fun _ s _=>25 - (intOf s).toNat)
 case atStart=>exact⟨0,[],by omega,rfl,rfl,World.ownsRow_made w #[] 0 (Nat.le_refl _) (by simp[maxLen]) rfl,fnew (frefl _) _⟩
 case round =>
  obtain⟨k,l,hk,rfl,hl,hown,hf⟩:=hrel
  have HF:=Lib.hid hf
  have hle:=(runsTo_le m k hl).1
  have HL:=Lib.hid hl
  have HO:=Lib.hid hown
  clear hf hl hown
  by_cases hlt:k<24
  ·obtain⟨wo,rfl⟩:∃ wo:World,wo=wr:=⟨_,rfl⟩
   go_wp2
   go_loop [4] (fun s=>∃ j:Nat,k≤j∧j≤24∧s=.int .i64 j∧runsTo m j=(l,j - k)) (fun s=>24 - (intOf s).toNat)
   case atStart=>exact⟨k,Nat.le_refl _,by omega,rfl,by rw[Nat.sub_self];exact HL.out⟩
   case round =>
    obtain⟨j,hkj,hj,rfl,hr⟩:=hrel
    have HR:=Lib.hid hr
    clear hr
    cases hfr:freeS m j
    ·have HS:=Lib.hid hfr
     by_cases hgt:k<j
     ·by_cases h24:j<24
      ·have hd:decide ((j:Int)<24)=true:=decide_eq_true (by omega)
       have ht:(bits BinOp.and IntKind.i64 (m / 2 ^ j) 1 == 0)=false:=by simpa [freeS,h24] using hfr
       clear hfr
       go_wp2_with (at_builtin;refine wpList_app_prs Tryz.underlying211 infoBlk w _ _ l k ((j:Int) - k) rfl _ _ rfl rfl HO.out rfl (by omega) HF.out ?_;intro v' w2 hown2 hf2)
       have HO2:=Lib.hid hown2
       have HF2:=Lib.hid hf2
       clear hown2 hf2
       go_wp2
       go_roundw
       case rel =>
        refine⟨j+1,l++[((k:Int),(j:Int) - k)],by omega,by go_num,?_,HO2.out,HF2.out⟩
        have e:=runsTo_run HR.out HS.out (by omega)
        have e1:(j:Int) - ((j - k:Nat):Int)=k:=by omega
        have e2:((j - k:Nat):Int)=(j:Int) - k:=by omega
        rw[e1,e2] at e
        exact e
       case measure=>simp[intOf];omega
      ·clear hfr
       go_wp2_with (at_builtin;refine wpList_app_prs Tryz.underlying211 infoBlk w _ _ l k ((j:Int) - k) rfl _ _ rfl rfl HO.out rfl (by omega) HF.out ?_;intro v' w2 hown2 hf2)
       have HO2:=Lib.hid hown2
       have HF2:=Lib.hid hf2
       clear hown2 hf2
       go_wp2
       go_roundw
       case rel =>
        refine⟨j+1,l++[((k:Int),(j:Int) - k)],by omega,by go_num,?_,HO2.out,HF2.out⟩
        have e:=runsTo_run HR.out HS.out (by omega)
        have e1:(j:Int) - ((j - k:Nat):Int)=k:=by omega
        have e2:((j - k:Nat):Int)=(j:Int) - k:=by omega
        rw[e1,e2] at e
        exact e
       case measure=>simp[intOf];omega
     ·have hjk:j=k:=by omega
      subst hjk
      by_cases h24:j<24
      ·have hd:decide ((j:Int)<24)=true:=decide_eq_true (by omega)
       have ht:(bits BinOp.and IntKind.i64 (m / 2 ^ j) 1 == 0)=false:=by simpa [freeS,h24] using hfr
       clear hfr
       go_wp2
       go_roundw
       case rel=>exact⟨j+1,l,by omega,by go_num,runsTo_same HL.out HS.out,HO.out,HF.out⟩
       case measure=>simp[intOf];omega
      ·omega
    ·have HS:=Lib.hid hfr
     have h24:j<24:=by
      rcases Nat.lt_or_ge j 24 with h|h
      ·exact h
      ·rw[freeS_end (by omega)] at hfr;cases hfr
     have hd:decide ((j:Int)<24)=true:=decide_eq_true (by omega)
     have ht:(bits BinOp.and IntKind.i64 (m / 2 ^ j) 1 == 0)=true:=by simpa [freeS,h24] using hfr
     clear hfr
     go_wp2
     go_round
     case rel =>
      refine⟨j+1,by omega,by omega,by go_num,?_⟩
      rw[show j+1 - k=(j - k)+1 by omega]
      exact runsTo_free HR.out HS.out
     case measure=>simp[intOf];omega
  ·obtain⟨p,cap,rfl,ho⟩:=own_of_row HO.out
   have HO2:=Lib.hid ho
   clear ho
   have HE:=Lib.hid (runs_end HL.out (by omega) hk)
   go_wp2
   go_ret
   rw[HE.out]
   exact⟨p,cap,rfl,HO2.out,HF.out⟩
def askB (m c:Int):Bool:=maskB m && inB c 1 24
theorem askB_iff {m c:Int}:askB m c=true↔(0≤m∧m≤16777215)∧1≤c∧c≤24:=by simp[askB,maskB,inB]
set_option maxHeartbeats 400000 in
theorem isFit_any (m c:Int) (w:World) :
  Calls Tryz.prog 197 #[.int .i64 m,.int .i64 c] w fun e w'=>e=.returned (.bool (askB m c))∧w=w':=by
 cases hm:maskB m
 all_goals
  have HA:Hid (askB m c=(maskB m && inB c 1 24)):=rfl
  go_enter Tryz.func197,Tryz.ntmps197
  go_wp2_with (first|(go_at_call 219;refine(isMask_any _ _).mono ?_;rintro e w' ⟨rfl,rfl⟩)|(go_at_call 125;refine(within_any _ _ _ _).mono ?_;rintro e w' ⟨rfl,rfl⟩))
  go_ret
  exact⟨by rw[HA.out,hm];rfl,rfl⟩
def freeAt (m c s:Int):Bool:=bits BinOp.and IntKind.i64 m (mkF s c) == 0
def fitsTo (m c:Int) (k:Nat):List Int:=((List.range k).map Int.ofNat).filter (freeAt m c)
theorem fitsTo_yes {m c:Int} {k:Nat} (h:freeAt m c k=true):fitsTo m c (k+1)=fitsTo m c k++[(k:Int)]:=by
 unfold fitsTo;rw[List.range_succ,List.map_append,List.filter_append];simp[h]
theorem fitsTo_no {m c:Int} {k:Nat} (h:freeAt m c k=false):fitsTo m c (k+1)=fitsTo m c k:=by
 unfold fitsTo;rw[List.range_succ,List.map_append,List.filter_append];simp[h]
theorem fitsTo_len (m c:Int) (k:Nat):(fitsTo m c k).length≤k:=by
 unfold fitsTo;have:=List.length_filter_le (freeAt m c) ((List.range k).map Int.ofNat);simpa using this
def fits (m c:Int):List Int:=fitsTo m c (25 - c).toNat
set_option maxHeartbeats 1000000 in
theorem positions_any (m c:Int) (w:World) (h1:1≤c) (h2:c≤24) :
  Calls Tryz.prog 198 #[.int .i64 m,.int .i64 c] w (OutInts w (fits m c)):=by
 go_enter Tryz.func198,Tryz.ntmps198
 go_wp2
 go_loopw [5,6] (fun v i wr=>∃ k:Nat,(k:Int)≤25 - c∧i=.int .i64 k∧wr.ownsRow w.heap.size 3 1 v (fitsTo m c k).length ((fitsTo m c k).map iv)∧Fresh w wr) (fun _ i _=>25 - (intOf i).toNat)
 case atStart=>exact⟨0,by omega,rfl,World.ownsRow_made w #[] 0 (Nat.le_refl _) (by simp[maxLen]) rfl,fnew (frefl _) _⟩
 case round =>
  obtain⟨k,hk,rfl,hown,hf⟩:=hrel
  have HF:=Lib.hid hf
  have hle:=fitsTo_len m c k
  clear hf
  by_cases hlt:(k:Int)+c≤24
  ·cases hfr:freeAt m c k
   ·have HR:=Lib.hid hfr
    have hfr':(bits BinOp.and IntKind.i64 m (mkF k c) == 0)=false:=hfr
    clear hfr
    go_wp2_with (go_at_call 148;refine(maskOf_any _ _ _ (by omega) (by omega) (by omega)).mono ?_;rintro e w1 ⟨rfl,hb1⟩)
    go_roundw
    case rel=>exact⟨k+1,by omega,by go_num,by rw[fitsTo_no HR.out];exact ownsRow_keep hown hb1,fstep HF.out hb1⟩
    case measure=>simp[intOf];omega
   ·have HR:=Lib.hid hfr
    have hfr':(bits BinOp.and IntKind.i64 m (mkF k c) == 0)=true:=hfr
    clear hfr
    go_wp2_with (first
     | (go_at_call 148;refine(maskOf_any _ _ _ (by omega) (by omega) (by omega)).mono ?_;rintro e w1 ⟨rfl,hb1⟩;have hown1:=ownsRow_keep hown hb1;clear hown)
     | (at_builtin;refine wpList_app_ints w _ _ (fitsTo m c k) k rfl _ _ rfl rfl hown1 rfl (by omega) (fstep HF.out hb1) ?_;intro v' w2 hown2 hf2))
    have HO:=Lib.hid hown2
    have HF2:=Lib.hid hf2
    clear hown2 hf2 hown1
    go_wp2
    go_roundw
    case rel=>exact⟨k+1,by omega,by go_num,by rw[fitsTo_yes HR.out];exact HO.out,HF2.out⟩
    case measure=>simp[intOf];omega
  ·have hkn:(25 - c).toNat=k:=by omega
   have HK:=Lib.hid hkn
   clear hkn
   obtain⟨p,cap,rfl,ho⟩:=own_of_row hown
   have HO:=Lib.hid ho
   clear ho hown
   go_wp2
   go_ret
   exact⟨p,cap,by unfold fits;rw[HK.out];rfl,by unfold fits;rw[HK.out];exact HO.out,HF.out⟩
set_option maxHeartbeats 1000000 in
theorem l8Fits_any (m c:Int) (w:World) (h1:1≤c) (h2:c≤24) :
  Calls Tryz.prog 157 #[.int .i64 m,.int .i64 c] w (OutInts w (fits m c)):=by
 go_enter Tryz.func157,Tryz.ntmps157
 go_wp2
 go_loopw [5,6] (fun v i wr=>∃ k:Nat,(k:Int)≤25 - c∧i=.int .i64 k∧wr.ownsRow w.heap.size 3 1 v (fitsTo m c k).length ((fitsTo m c k).map iv)∧Fresh w wr) (fun _ i _=>25 - (intOf i).toNat)
 case atStart=>exact⟨0,by omega,rfl,World.ownsRow_made w #[] 0 (Nat.le_refl _) (by simp[maxLen]) rfl,fnew (frefl _) _⟩
 case round =>
  obtain⟨k,hk,rfl,hown,hf⟩:=hrel
  have HF:=Lib.hid hf
  have hle:=fitsTo_len m c k
  clear hf
  by_cases hlt:(k:Int)+c≤24
  ·cases hfr:freeAt m c k
   ·have HR:=Lib.hid hfr
    have hfr':(bits BinOp.and IntKind.i64 m (mkF k c) == 0)=false:=hfr
    clear hfr
    go_wp2_with (go_at_call 142;refine(l8Bits_any _ _ _ (by omega) (by omega) (by omega)).mono ?_;rintro e w1 ⟨rfl,hb1⟩)
    go_roundw
    case rel=>exact⟨k+1,by omega,by go_num,by rw[fitsTo_no HR.out];exact ownsRow_keep hown hb1,fstep HF.out hb1⟩
    case measure=>simp[intOf];omega
   ·have HR:=Lib.hid hfr
    have hfr':(bits BinOp.and IntKind.i64 m (mkF k c) == 0)=true:=hfr
    clear hfr
    go_wp2_with (first
     | (go_at_call 142;refine(l8Bits_any _ _ _ (by omega) (by omega) (by omega)).mono ?_;rintro e w1 ⟨rfl,hb1⟩;have hown1:=ownsRow_keep hown hb1;clear hown)
     | (at_builtin;refine wpList_app_ints w _ _ (fitsTo m c k) k rfl _ _ rfl rfl hown1 rfl (by omega) (fstep HF.out hb1) ?_;intro v' w2 hown2 hf2))
    have HO:=Lib.hid hown2
    have HF2:=Lib.hid hf2
    clear hown2 hf2 hown1
    go_wp2
    go_roundw
    case rel=>exact⟨k+1,by omega,by go_num,by rw[fitsTo_yes HR.out];exact HO.out,HF2.out⟩
    case measure=>simp[intOf];omega
  ·have hkn:(25 - c).toNat=k:=by omega
   have HK:=Lib.hid hkn
   clear hkn
   obtain⟨p,cap,rfl,ho⟩:=own_of_row hown
   have HO:=Lib.hid ho
   clear ho hown
   go_wp2
   go_ret
   exact⟨p,cap,by unfold fits;rw[HK.out];rfl,by unfold fits;rw[HK.out];exact HO.out,HF.out⟩
def blkRes (r:Int × Int × Bool):Value:=.tuple #[.agg #[.int .i64 r.1,.int .i64 r.2.1],.bool r.2.2]
def pickF (g:List Int→Int) (m c:Int):Int × Int × Bool:=if askB m c then (match fits m c with | []=>(0,0,false)|x :: l=>(g (x :: l),c,true)) else (0,0,false)
theorem pickF_no {g:List Int→Int} {m c:Int} (h:askB m c=false):pickF g m c=(0,0,false):=by simp[pickF,h]
theorem pickF_nil {g:List Int→Int} {m c:Int} (h:fits m c=[]):pickF g m c=(0,0,false):=by unfold pickF;rw[h];split <;> rfl
theorem pickF_some {g:List Int→Int} {m c x:Int} {l:List Int} (h:askB m c=true) (hl:fits m c=x :: l):pickF g m c=(g (x :: l),c,true):=by unfold pickF;rw[hl,if_pos h]
def headI (l:List Int):Int:=l.headD 0
def lastFi (l:List Int):Int:=l.getLastD 0
theorem last_of {x y:Int} {l:List Int} (h:(x :: l)[l.length]?=some y):lastFi (x :: l)=y:=by
 unfold lastFi
 rw[List.getLastD_eq_getLast?,List.getLast?_eq_getElem?]
 simp only[List.length_cons,Nat.add_sub_cancel]
 rw[h];rfl
set_option maxHeartbeats 1000000 in
theorem implFirstFit_any (m c:Int) (w:World) :
  Calls Tryz.prog 170 #[.int .i64 m,.int .i64 c] w fun e w'=>e=.returned (blkRes (pickF headI m c))∧Fresh w w':=by
 cases ha:askB m c
 ·have HP:=Lib.hid (pickF_no (g:=headI) ha)
  go_enter Tryz.func170,Tryz.ntmps170
  go_wp2_with (go_at_call 197;refine(isFit_any _ _ _).mono ?_;rintro e w' ⟨rfl,rfl⟩)
  refine bodyPost_ret (v:=blkRes (0,0,false)) (by simp[results,Tryz.results170,go_sem,blkRes]) rfl ⟨by rw[HP.out],fnew (frefl _) _⟩
 ·obtain⟨⟨g1,g2⟩,g3,g4⟩:=askB_iff.1 ha
  have HA:=Lib.hid ha
  rcases hL:fits m c with _|⟨x,l⟩
  ·have HP:=Lib.hid (pickF_nil (g:=headI) hL)
   have HL:=Lib.hid hL
   clear hL
   go_enter Tryz.func170,Tryz.ntmps170
   go_wp2_with (go_at_call 197;refine(isFit_any _ _ _).mono ?_;rintro e w' ⟨rfl,rfl⟩)
   refine(positions_any _ _ _ g3 g4).mono ?_;rintro e w1 ⟨p,cap,rfl,ho,hb⟩
   rw[HL.out] at ho ⊢
   have c0:w1.cell? ⟨w.heap.size,0,none⟩=some (.int .i64 0):=box hb 0 rfl
   have c1:w1.cell? ⟨w.heap.size,1,none⟩=some (.int .i64 0):=box hb 1 rfl
   have f0:=boxf hb 0
   have f1:=boxf hb 1
   go_wp2
   refine bodyPost_ret (v:=blkRes (0,0,false)) (by simp[results,Tryz.results170,go_sem,blkRes,c0,c1]) rfl ⟨by rw[HP.out],fset (fset (fstep (fnew (frefl _) _) hb) (Nat.le_refl _) _) (Nat.le_refl _) _⟩
  ·have HP:=Lib.hid (pickF_some (g:=headI) HA.out hL)
   have hlen:=congrArg List.length hL
   simp only[List.length_cons] at hlen
   have hbd:l.length+1≤25:=by rw[← hlen];unfold fits;have:=fitsTo_len m c (25 - c).toNat;omega
   clear hlen
   have HL:=Lib.hid hL
   clear hL
   go_enter Tryz.func170,Tryz.ntmps170
   go_wp2_with (go_at_call 197;refine(isFit_any _ _ _).mono ?_;rintro e w' ⟨rfl,rfl⟩)
   refine(positions_any _ _ _ g3 g4).mono ?_;rintro e w1 ⟨p,cap,rfl,ho,hb⟩
   rw[HL.out] at ho ⊢
   obtain⟨b,off,rfl,hc⟩:=Own.ints (L:=x :: l) ho |>.at0
   have c0:w1.cell? ⟨w.heap.size,0,none⟩=some (.int .i64 0):=box hb 0 rfl
   have c1:w1.cell? ⟨w.heap.size,1,none⟩=some (.int .i64 0):=box hb 1 rfl
   have f0:=boxf hb 0
   have f1:=boxf hb 1
   go_wp2
   refine bodyPost_ret (v:=blkRes (x,c,true)) (by simp[results,Tryz.results170,go_sem,blkRes,c0,c1]) rfl ⟨by rw[HP.out];rfl,fset (fset (fstep (fnew (frefl _) _) hb) (Nat.le_refl _) _) (Nat.le_refl _) _⟩
set_option maxHeartbeats 1000000 in
theorem implLastFit_any (m c:Int) (w:World) :
  Calls Tryz.prog 171 #[.int .i64 m,.int .i64 c] w fun e w'=>e=.returned (blkRes (pickF lastFi m c))∧Fresh w w':=by
 cases ha:askB m c
 ·have HP:=Lib.hid (pickF_no (g:=lastFi) ha)
  go_enter Tryz.func171,Tryz.ntmps171
  go_wp2_with (go_at_call 197;refine(isFit_any _ _ _).mono ?_;rintro e w' ⟨rfl,rfl⟩)
  refine bodyPost_ret (v:=blkRes (0,0,false)) (by simp[results,Tryz.results171,go_sem,blkRes]) rfl ⟨by rw[HP.out],fnew (frefl _) _⟩
 ·obtain⟨⟨g1,g2⟩,g3,g4⟩:=askB_iff.1 ha
  have HA:=Lib.hid ha
  rcases hL:fits m c with _|⟨x,l⟩
  ·have HP:=Lib.hid (pickF_nil (g:=lastFi) hL)
   have HL:=Lib.hid hL
   clear hL
   go_enter Tryz.func171,Tryz.ntmps171
   go_wp2_with (go_at_call 197;refine(isFit_any _ _ _).mono ?_;rintro e w' ⟨rfl,rfl⟩)
   refine(positions_any _ _ _ g3 g4).mono ?_;rintro e w1 ⟨p,cap,rfl,ho,hb⟩
   rw[HL.out] at ho ⊢
   have c0:w1.cell? ⟨w.heap.size,0,none⟩=some (.int .i64 0):=box hb 0 rfl
   have c1:w1.cell? ⟨w.heap.size,1,none⟩=some (.int .i64 0):=box hb 1 rfl
   have f0:=boxf hb 0
   have f1:=boxf hb 1
   go_wp2
   refine bodyPost_ret (v:=blkRes (0,0,false)) (by simp[results,Tryz.results171,go_sem,blkRes,c0,c1]) rfl ⟨by rw[HP.out],fset (fset (fstep (fnew (frefl _) _) hb) (Nat.le_refl _) _) (Nat.le_refl _) _⟩
  ·have HP:=Lib.hid (pickF_some (g:=lastFi) HA.out hL)
   have hlen:=congrArg List.length hL
   simp only[List.length_cons] at hlen
   have hbd:l.length+1≤25:=by rw[← hlen];unfold fits;have:=fitsTo_len m c (25 - c).toNat;omega
   clear hlen
   have HL:=Lib.hid hL
   clear hL
   go_enter Tryz.func171,Tryz.ntmps171
   go_wp2_with (go_at_call 197;refine(isFit_any _ _ _).mono ?_;rintro e w' ⟨rfl,rfl⟩)
   refine(positions_any _ _ _ g3 g4).mono ?_;rintro e w1 ⟨p,cap,rfl,ho,hb⟩
   rw[HL.out] at ho ⊢
   obtain⟨b,off,y,rfl,hy,hc⟩:=Own.ints (L:=x :: l) ho |>.at (k:=l.length) (by simp)
   have HY:=Lib.hid hy
   clear hy
   have c0:w1.cell? ⟨w.heap.size,0,none⟩=some (.int .i64 0):=box hb 0 rfl
   have c1:w1.cell? ⟨w.heap.size,1,none⟩=some (.int .i64 0):=box hb 1 rfl
   have f0:=boxf hb 0
   have f1:=boxf hb 1
   go_wp2
   refine bodyPost_ret (v:=blkRes (y,c,true)) (by simp[results,Tryz.results171,go_sem,blkRes,c0,c1]) rfl ⟨by rw[HP.out,last_of HY.out],fset (fset (fstep (fnew (frefl _) _) hb) (Nat.le_refl _) _) (Nat.le_refl _) _⟩
def bstep (c:Int) (b r:Int × Int):Int × Int:=if c≤r.2∧(b.2=0∨r.2<b.2) then r else b
def bestR (c:Int) (l:List (Int × Int)):Int × Int:=l.foldl (bstep c) (0,0)
theorem bestR_step {c:Int} {l:List (Int × Int)} {k:Nat} {r:Int × Int} (h:l[k]?=some r):bestR c (l.take (k+1))=bstep c (bestR c (l.take k)) r:=by
 unfold bestR;rw[List.take_add_one,h];simp
theorem bstep_take {c:Int} {b r:Int × Int} (h:c≤r.2) (h':b.2=0∨r.2<b.2):bstep c b r=r:=by unfold bstep;rw[if_pos ⟨h,h'⟩]
theorem bstep_skip {c:Int} {b r:Int × Int} (h:¬ (c≤r.2∧(b.2=0∨r.2<b.2))):bstep c b r=b:=by unfold bstep;rw[if_neg h]
theorem bestR_or (c:Int) (l:List (Int × Int)):bestR c l=(0,0)∨c≤(bestR c l).2:=by
 have key:∀ (l:List (Int × Int)) (b:Int × Int),(b=(0,0)∨c≤b.2)→(l.foldl (bstep c) b=(0,0)∨c≤(l.foldl (bstep c) b).2):=by
  intro l
  induction l with
  | nil=>intro b hb;exact hb
  | cons r l ih =>
   intro b hb
   rw[List.foldl_cons]
   apply ih
   unfold bstep
   split
   ·rename_i h;exact Or.inr h.1
   ·exact hb
 exact key l (0,0) (Or.inl rfl)
def bestF (m c:Int):Int × Int × Bool:=if askB m c && !((bestR c (runs m)).2 == 0) then ((bestR c (runs m)).1,c,true) else (0,0,false)
theorem bestF_no {m c:Int} (h:askB m c=false):bestF m c=(0,0,false):=by simp[bestF,h]
theorem bestF_none {m c:Int} (h:(bestR c (runs m)).2=0):bestF m c=(0,0,false):=by simp[bestF,h]
theorem bestF_yes {m c:Int} (ha:askB m c=true) (h:(bestR c (runs m)).2≠0):bestF m c=((bestR c (runs m)).1,c,true):=by simp[bestF,ha,h]
set_option maxHeartbeats 2000000 in
theorem implBestFit_any (m c:Int) (w:World) :
  Calls Tryz.prog 172 #[.int .i64 m,.int .i64 c] w fun e w'=>e=.returned (blkRes (bestF m c))∧Fresh w w':=by
 cases ha:askB m c
 ·have HP:=Lib.hid (bestF_no ha)
  go_enter Tryz.func172,Tryz.ntmps172
  go_wp2_with (go_at_call 197;refine(isFit_any _ _ _).mono ?_;rintro e w' ⟨rfl,rfl⟩)
  refine bodyPost_ret (v:=blkRes (0,0,false)) (by simp[results,Tryz.results172,go_sem,blkRes]) rfl ⟨by rw[HP.out],fnew (frefl _) _⟩
 ·obtain⟨⟨g1,g2⟩,g3,g4⟩:=askB_iff.1 ha
  have HN:=Lib.hid (bestF_none (m:=m) (c:=c))
  have HY:=Lib.hid (bestF_yes (m:=m) (c:=c) ha)
  have hlen:=runs_len m
  go_enter Tryz.func172,Tryz.ntmps172
  go_wp2_with (go_at_call 197;refine(isFit_any _ _ _).mono ?_;rintro e w' ⟨rfl,rfl⟩)
  refine(freeRuns_any _ _ g1).mono ?_;rintro e w1 ⟨p,cap,rfl,ho,hb⟩
  generalize hL:runs m=L at *
  have HL:=Lib.hid hL
  clear hL
  have HB:=Lib.hid hb
  have HO:=Lib.hid ho
  have hs0:=boxsize hb
  simp only[World.size_alloc] at hs0
  clear hb ho ha
  go_wp2
  go_loopw [18] (fun i wr=>∃ k:Nat,k≤L.length∧i=.int .i64 k∧RowAt wr (w.heap.size+1) 92 [iv (bestR c (L.take k)).1,iv (bestR c (L.take k)).2]∧RowAt wr w.heap.size 92 [iv 0,iv 0]∧Own wr (w.heap.size+2) 92 p (pcs L)∧Fresh w wr) (fun i _=>L.length - (intOf i).toNat)
  case atStart =>
   refine⟨0,Nat.zero_le _,rfl,?_,?_,?_,?_⟩
   ·have:=boxrow (cs:=[iv 0,iv 0]) HB.out
    simpa [bestR] using this
   ·exact((RowAt.new w 92 [iv 0,iv 0]).alloc _).keep HB.out
   ·have:=HO.out
    simpa using this
   ·exact fstep (fnew (fnew (frefl _) _) _) HB.out
  case round =>
   obtain⟨k,hk,rfl,hr1,hr0,hown,hf⟩:=hrel
   have R1:=Lib.hid hr1
   have R0:=Lib.hid hr0
   have O:=Lib.hid hown
   have HF:=Lib.hid hf
   clear HB HO
   rcases hbk:bestR c (L.take k) with⟨b1,b2⟩
   rw[hbk] at hr1
   have HK:=Lib.hid hbk
   clear hbk
   have c0:wr.cell? ⟨w.heap.size+1,0,none⟩=some (.int .i64 b1):=hr1.cell rfl
   have c1:wr.cell? ⟨w.heap.size+1,1,none⟩=some (.int .i64 b2):=hr1.cell rfl
   have f0:=hr1.frozen 0
   have f1:=hr1.frozen 1
   have hsz:=hr1.lt
   by_cases hlt:k<L.length
   ·obtain⟨b,off,x,y,rfl,hx,hc0,hc1⟩:=hown.prs.at hlt
    have hbl:b<wr.heap.size:=World.block_lt_of_cell? wr _ hc0
    have HX:=Lib.hid (bestR_step (c:=c) hx)
    clear hx hr1 hr0 hown hf
    by_cases h1:c≤y
    ·have hd1:decide (c≤y)=true:=decide_eq_true h1
     by_cases h2:b2=0
     ·have HT:=Lib.hid (bstep_take (c:=c) (b:=(b1,b2)) (r:=(x,y)) h1 (Or.inl h2))
      have hd2:(b2 == 0)=true:=beq_iff_eq.2 h2
      clear h2
      go_wp2
      go_roundw
      case rel =>
       have hq:bestR c (L.take (k+1))=(x,y):=by rw[HX.out,HK.out,HT.out]
       refine⟨k+1,by omega,by go_num,?_,?_,?_,?_⟩
       ·rw[hq];exact((R1.out.set 0 (iv x)).set 1 (iv y)).alloc _
       ·exact((R0.out.setOther (by omega) _).setOther (by omega) _).alloc _
       ·exact((O.out.setOther (by omega) _).setOther (by omega) _).keep (fnew (frefl _) _)
       ·exact fnew (fset (fset HF.out (by omega) _) (by omega) _) _
      case measure=>simp[intOf];omega
     ·have hd2:(b2 == 0)=false:=beq_eq_false_iff_ne.2 h2
      by_cases h3:y<b2
      ·have HT:=Lib.hid (bstep_take (c:=c) (b:=(b1,b2)) (r:=(x,y)) h1 (Or.inr h3))
       have hd3:decide (y<b2)=true:=decide_eq_true h3
       go_wp2
       go_roundw
       case rel =>
        have hq:bestR c (L.take (k+1))=(x,y):=by rw[HX.out,HK.out,HT.out]
        refine⟨k+1,by omega,by go_num,?_,?_,?_,?_⟩
        ·rw[hq];exact((R1.out.set 0 (iv x)).set 1 (iv y)).alloc _
        ·exact((R0.out.setOther (by omega) _).setOther (by omega) _).alloc _
        ·exact((O.out.setOther (by omega) _).setOther (by omega) _).keep (fnew (frefl _) _)
        ·exact fnew (fset (fset HF.out (by omega) _) (by omega) _) _
       case measure=>simp[intOf];omega
      ·have HT:=Lib.hid (bstep_skip (c:=c) (b:=(b1,b2)) (r:=(x,y)) (by rintro⟨_,h|h⟩;exact h2 h;exact h3 h))
       have hd3:decide (y<b2)=false:=decide_eq_false h3
       go_wp2
       go_roundw
       case rel =>
        have hq:bestR c (L.take (k+1))=(b1,b2):=by rw[HX.out,HK.out,HT.out]
        refine⟨k+1,by omega,by go_num,?_,R0.out.alloc _,O.out.keep (fnew (frefl _) _),fnew HF.out _⟩
        rw[hq,← HK.out];exact R1.out.alloc _
       case measure=>simp[intOf];omega
    ·have HT:=Lib.hid (bstep_skip (c:=c) (b:=(b1,b2)) (r:=(x,y)) (fun h=>h1 h.1))
     have hd1:decide (c≤y)=false:=decide_eq_false h1
     go_wp2
     go_roundw
     case rel =>
      have hq:bestR c (L.take (k+1))=(b1,b2):=by rw[HX.out,HK.out,HT.out]
      refine⟨k+1,by omega,by go_num,?_,R0.out.alloc _,O.out.keep (fnew (frefl _) _),fnew HF.out _⟩
      rw[hq,← HK.out];exact R1.out.alloc _
     case measure=>simp[intOf];omega
   ·have hkn:k=L.length:=by omega
    have HE:Hid (bestR c L=(b1,b2)):=by have:=HK.out;rw[hkn,List.take_length] at this;exact this
    have d0:wr.cell? ⟨w.heap.size,0,none⟩=some (.int .i64 0):=hr0.cell rfl
    have d1:wr.cell? ⟨w.heap.size,1,none⟩=some (.int .i64 0):=hr0.cell rfl
    have e0:=hr0.frozen 0
    have e1:=hr0.frozen 1
    clear hr1 hr0 hown hf
    by_cases h2:b2=0
    ·have HP:=Lib.hid (HN.out (by rw[HE.out];exact h2))
     have hd2:(b2 == 0)=true:=beq_iff_eq.2 h2
     clear h2
     subst hkn
     go_wp2
     refine bodyPost_ret (v:=blkRes (0,0,false)) (by simp[results,Tryz.results172,go_sem,blkRes,d0,d1]) rfl ⟨by rw[HP.out],fset (fset HF.out (Nat.le_refl _) _) (Nat.le_refl _) _⟩
    ·have HP:=Lib.hid (HY.out (by rw[HE.out];exact h2))
     have hd2:(b2 == 0)=false:=beq_eq_false_iff_ne.2 h2
     clear h2
     subst hkn
     go_wp2
     refine bodyPost_ret (v:=blkRes (b1,c,true)) (by simp[results,Tryz.results172,go_sem,blkRes,d0,d1]) rfl ⟨by rw[HP.out,HE.out],fset (fset HF.out (Nat.le_refl _) _) (Nat.le_refl _) _⟩
def bestB (m c:Int):Int × Int:=if (bestR c (runs m)).2=0 then (0,0) else ((bestR c (runs m)).1,c)
theorem bestB_none {m c:Int} (h:(bestR c (runs m)).2=0):bestB m c=(0,0):=by simp[bestB,h]
theorem bestB_some {m c:Int} (h:(bestR c (runs m)).2≠0):bestB m c=((bestR c (runs m)).1,c):=by simp[bestB,h]
def agg2 (r:Int × Int):Value:=.agg #[.int .i64 r.1,.int .i64 r.2]
set_option maxHeartbeats 2000000 in
theorem l8Best_any (m c:Int) (w:World) (g1:0≤m) (g3:1≤c) :
  Calls Tryz.prog 158 #[.int .i64 m,.int .i64 c] w fun e w'=>e=.returned (agg2 (bestB m c))∧Fresh w w':=by
 have HN:=Lib.hid (bestB_none (m:=m) (c:=c))
 have HY:=Lib.hid (bestB_some (m:=m) (c:=c))
 have HOR:=Lib.hid (bestR_or c (runs m))
 have hlen:=runs_len m
 go_enter Tryz.func158,Tryz.ntmps158
 go_wp2_with fail
 refine(l8Runs_any _ _ g1).mono ?_;rintro e w1 ⟨p,cap,rfl,ho,hb⟩
 generalize hL:runs m=L at *
 have HL:=Lib.hid hL
 clear hL
 have HB:=Lib.hid hb
 have HO:=Lib.hid ho
 have hs0:=boxsize hb
 simp only[World.size_alloc] at hs0
 clear hb ho
 go_wp2
 go_loopw [7] (fun i wr=>∃ k:Nat,k≤L.length∧i=.int .i64 k∧RowAt wr (w.heap.size+1) 92 [iv (bestR c (L.take k)).1,iv (bestR c (L.take k)).2]∧RowAt wr w.heap.size 92 [iv 0,iv 0]∧Own wr (w.heap.size+2) 92 p (pcs L)∧Fresh w wr) (fun i _=>L.length - (intOf i).toNat)
 case atStart =>
  refine⟨0,Nat.zero_le _,rfl,?_,?_,?_,?_⟩
  ·have:=boxrow (cs:=[iv 0,iv 0]) HB.out
   simpa [bestR] using this
  ·exact((RowAt.new w 92 [iv 0,iv 0]).alloc _).keep HB.out
  ·have:=HO.out
   simpa using this
  ·exact fstep (fnew (fnew (frefl _) _) _) HB.out
 case round =>
  obtain⟨k,hk,rfl,hr1,hr0,hown,hf⟩:=hrel
  have R1:=Lib.hid hr1
  have R0:=Lib.hid hr0
  have O:=Lib.hid hown
  have HF:=Lib.hid hf
  clear HB HO
  rcases hbk:bestR c (L.take k) with⟨b1,b2⟩
  rw[hbk] at hr1
  have HK:=Lib.hid hbk
  clear hbk
  have c0:wr.cell? ⟨w.heap.size+1,0,none⟩=some (.int .i64 b1):=hr1.cell rfl
  have c1:wr.cell? ⟨w.heap.size+1,1,none⟩=some (.int .i64 b2):=hr1.cell rfl
  have f0:=hr1.frozen 0
  have f1:=hr1.frozen 1
  have hsz:=hr1.lt
  by_cases hlt:k<L.length
  ·obtain⟨b,off,x,y,rfl,hx,hc0,hc1⟩:=hown.prs.at hlt
   have HX:=Lib.hid (bestR_step (c:=c) hx)
   have hz:(k:Int)<(L.length:Int):=by omega
   clear hx hr1 hr0 hown hf
   by_cases h1:c≤y
   ·have hd1:decide (c≤y)=true:=decide_eq_true h1
    by_cases h2:b2=0
    ·have HT:=Lib.hid (bstep_take (c:=c) (b:=(b1,b2)) (r:=(x,y)) h1 (Or.inl h2))
     have hd2:(b2 == 0)=true:=beq_iff_eq.2 h2
     clear h2
     go_wp2
     go_quiet (fail)
     go_wp2
     go_roundw
     case rel =>
      have hq:bestR c (L.take (k+1))=(x,y):=by rw[HX.out,HK.out,HT.out]
      refine⟨k+1,by omega,by go_num,?_,?_,?_,?_⟩
      ·rw[hq];exact(R1.out.set 0 (iv x)).set 1 (iv y)
      ·exact(R0.out.setOther (by omega) _).setOther (by omega) _
      ·exact(O.out.setOther (by omega) _).setOther (by omega) _
      ·exact fset (fset (fdrewN HF.out _) (by omega) _) (by omega) _
     case measure=>simp[intOf];omega
    ·have hd2:(b2 == 0)=false:=beq_eq_false_iff_ne.2 h2
     by_cases h3:y<b2
     ·have HT:=Lib.hid (bstep_take (c:=c) (b:=(b1,b2)) (r:=(x,y)) h1 (Or.inr h3))
      have hd3:decide (y<b2)=true:=decide_eq_true h3
      go_wp2
      go_quiet (fail)
      go_wp2
      go_roundw
      case rel =>
       have hq:bestR c (L.take (k+1))=(x,y):=by rw[HX.out,HK.out,HT.out]
       refine⟨k+1,by omega,by go_num,?_,?_,?_,?_⟩
       ·rw[hq];exact(R1.out.set 0 (iv x)).set 1 (iv y)
       ·exact(R0.out.setOther (by omega) _).setOther (by omega) _
       ·exact(O.out.setOther (by omega) _).setOther (by omega) _
       ·exact fset (fset (fdrewN HF.out _) (by omega) _) (by omega) _
      case measure=>simp[intOf];omega
     ·have HT:=Lib.hid (bstep_skip (c:=c) (b:=(b1,b2)) (r:=(x,y)) (by rintro⟨_,h|h⟩;exact h2 h;exact h3 h))
      have hd3:decide (y<b2)=false:=decide_eq_false h3
      go_wp2
      go_quiet (fail)
      go_wp2
      go_roundw
      case rel =>
       have hq:bestR c (L.take (k+1))=(b1,b2):=by rw[HX.out,HK.out,HT.out]
       refine⟨k+1,by omega,by go_num,?_,R0.out,O.out,fdrewN HF.out _⟩
       rw[hq,← HK.out];exact R1.out
      case measure=>simp[intOf];omega
   ·have HT:=Lib.hid (bstep_skip (c:=c) (b:=(b1,b2)) (r:=(x,y)) (fun h=>h1 h.1))
    have hd1:decide (c≤y)=false:=decide_eq_false h1
    go_wp2
    go_quiet (fail)
    go_wp2
    go_roundw
    case rel =>
     have hq:bestR c (L.take (k+1))=(b1,b2):=by rw[HX.out,HK.out,HT.out]
     refine⟨k+1,by omega,by go_num,?_,R0.out,O.out,fdrewN HF.out _⟩
     rw[hq,← HK.out];exact R1.out
    case measure=>simp[intOf];omega
  ·have hkn:k=L.length:=by omega
   have HE:Hid (bestR c L=(b1,b2)):=by have:=HK.out;rw[hkn,List.take_length] at this;exact this
   have d0:wr.cell? ⟨w.heap.size,0,none⟩=some (.int .i64 0):=hr0.cell rfl
   have d1:wr.cell? ⟨w.heap.size,1,none⟩=some (.int .i64 0):=hr0.cell rfl
   have e0:=hr0.frozen 0
   have e1:=hr0.frozen 1
   clear hr1 hr0 hown hf
   by_cases h2:b2=0
   ·have hb1:b1=0:=by
     rcases HOR.out with h|h
     ·rw[HE.out] at h;simp at h;exact h.1
     ·rw[HE.out] at h;simp only at h;omega
    have HP:=Lib.hid (HN.out (by rw[HE.out];exact h2))
    subst h2 hb1
    subst hkn
    go_wp2
    refine bodyPost_ret (v:=agg2 (0,0)) (by simp[results,Tryz.results158,go_sem,agg2,d0,d1]) rfl ⟨by rw[HP.out],fset (fset HF.out (Nat.le_refl _) _) (Nat.le_refl _) _⟩
   ·have HP:=Lib.hid (HY.out (by rw[HE.out];exact h2))
    have h2':0<b2:=by
     rcases HOR.out with h|h
     ·rw[HE.out] at h;simp at h;exact absurd h.2 h2
     ·rw[HE.out] at h;simp only at h;omega
    clear h2
    subst hkn
    go_wp2
    refine bodyPost_ret (v:=agg2 (b1,c)) (by simp[results,Tryz.results158,go_sem,agg2,d0,d1]) rfl ⟨by rw[HP.out,HE.out],?_⟩
    repeat (first|exact HF.out|(refine fset ?_ (by omega) _))
def Fr (M s:Nat):Prop:=s<24∧M.testBit s=false
theorem mkN_eq {f c:Nat} (h1:1≤c) (h2:f+c≤24):mkN ((f:Int),(c:Int))=(2 ^ c - 1) <<< f:=by
 have h:=(mkF_val (f:=(f:Int)) (c:=(c:Int)) (by omega) (by omega) (by omega)).1
 unfold mkN
 simp only
 rw[h,Int.toNat_natCast,Int.toNat_natCast,Nat.shiftLeft_eq]
 have e:((2:Int) ^ c - 1) * 2 ^ f=(((2 ^ c - 1) * 2 ^ f:Nat):Int):=by
  have h1:1≤2 ^ c:=Nat.one_le_two_pow
  rw[Int.natCast_mul,Int.natCast_sub h1,Int.natCast_pow,Int.natCast_pow]
  rfl
 rw[e,Int.toNat_natCast]
theorem mkN_bit {f c s:Nat} (h1:1≤c) (h2:f+c≤24):(mkN ((f:Int),(c:Int))).testBit s=decide (f≤s∧s<f+c):=by
 rw[mkN_eq h1 h2,Nat.testBit_shiftLeft,Nat.testBit_two_pow_sub_one]
 by_cases hf:f≤s
 ·rw[decide_eq_true hf,Bool.true_and]
  by_cases hs:s<f+c
  ·rw[decide_eq_true (show s - f<c by omega),decide_eq_true ⟨hf,hs⟩]
  ·rw[decide_eq_false (show ¬ s - f<c by omega),decide_eq_false (fun h=>hs h.2)]
 ·rw[decide_eq_false hf,Bool.false_and,decide_eq_false (fun h=>hf h.1)]
theorem freeS_iff {M k:Nat} (hM:M<16777216):freeS (M:Int) k=true↔Fr M k:=by
 unfold freeS Fr
 rw[Bool.and_eq_true,decide_eq_true_eq,and_one M k (lt63 hM),beq_iff_eq,Nat.testBit_eq_decide_div_mod_eq,decide_eq_false_iff_not]
 constructor
 ·rintro⟨h1,h2⟩;exact⟨h1,by omega⟩
 ·rintro⟨h1,h2⟩;exact⟨h1,by omega⟩
theorem freeAt_iff {M f c:Nat} (hM:M<16777216) (h1:1≤c) (h2:f+c≤24):freeAt (M:Int) (c:Int) (f:Int)=true↔∀ s,f≤s→s<f+c→Fr M s:=by
 have hg:goodB (f:Int) (c:Int)=true:=goodB_iff.2 ⟨by omega,by omega,by omega⟩
 obtain⟨e,_,e2⟩:=mkN_ok hg
 unfold freeAt
 rw[e,and_i64 M _ (lt63 hM) (lt63 e2),beq_iff_eq]
 constructor
 ·intro h s hs1 hs2
  have h0:M &&& mkN ((f:Int),(c:Int))=0:=by omega
  have hb:=congrArg (fun n=>Nat.testBit n s) h0
  simp only[Nat.testBit_and,Nat.zero_testBit,mkN_bit h1 h2,decide_eq_true (show f≤s∧s<f+c from ⟨hs1,hs2⟩),Bool.and_true] at hb
  exact⟨by omega,hb⟩
 ·intro h
  have h0:M &&& mkN ((f:Int),(c:Int))=0:=by
   apply Nat.eq_of_testBit_eq
   intro s
   rw[Nat.testBit_and,Nat.zero_testBit,mkN_bit h1 h2]
   by_cases hs:f≤s∧s<f+c
   ·rw[(h s hs.1 hs.2).2,Bool.false_and]
   ·rw[decide_eq_false hs,Bool.and_false]
  rw[h0];rfl
def RunOk (M e:Nat) (r:Int × Int):Prop:=∃ f c:Nat,r=((f:Int),(c:Int))∧1≤c∧f+c≤e∧(∀ s,f≤s→s<f+c→Fr M s)∧¬ Fr M (f+c)∧(f=0∨¬ Fr M (f - 1))
def sumC (l:List (Int × Int)):Int:=l.foldl (fun a r=>a+r.2) 0
theorem sumC_snoc (l:List (Int × Int)) (r:Int × Int):sumC (l++[r])=sumC l+r.2:=by unfold sumC;rw[List.foldl_append];rfl
def popTo (M:Nat):Nat→Nat
 | 0=>0
 | k+1=>popTo M k+if freeS (M:Int) k=true then 0 else 1
theorem popTo_succ (M k:Nat):popTo M (k+1)=popTo M k+if freeS (M:Int) k=true then 0 else 1:=rfl
theorem runs_inv {M:Nat} (hM:M<16777216):∀ {k:Nat} {l:List (Int × Int)} {c:Nat},runsTo (M:Int) k=(l,c) →
  c≤k∧(∀ r∈l,RunOk M (k - c) r)∧(∀ s,k - c≤s→s<k→Fr M s)∧(k - c=0∨¬ Fr M (k - c - 1))∧(∀ s,s<k - c→Fr M s→∃ r∈l,r.1≤(s:Int)∧(s:Int)<r.1+r.2)∧sumC l+(c:Int)+(popTo M k:Int)=(k:Int):=by
 intro k
 induction k with
 | zero =>
  intro l c h
  simp[runsTo] at h
  obtain⟨rfl,rfl⟩:=h
  exact⟨Nat.le_refl _,fun r hr=>(by cases hr),fun s _ h=>by omega,Or.inl rfl,fun s h=>by omega,rfl⟩
 | succ k ih =>
  intro l c h
  rcases hr:runsTo (M:Int) k with⟨l',c'⟩
  obtain⟨i1,i2,i3,i4,i5,i6⟩:=ih hr
  cases hf:freeS (M:Int) k
  ·have hnf:¬ Fr M k:=fun hF=>by rw[(freeS_iff hM).2 hF] at hf;cases hf
   have hp:popTo M (k+1)=popTo M k+1:=by rw[popTo_succ,hf];rfl
   rcases Nat.eq_zero_or_pos c' with rfl|hc
   ·rw[runsTo_same hr hf] at h
    simp only[Prod.mk.injEq] at h
    obtain⟨rfl,rfl⟩:=h
    refine⟨by omega,fun r hm=>?_,fun s h1 h2=>by omega,Or.inr (by simpa using hnf),fun s h1 h2=>?_,by rw[hp];omega⟩
    ·obtain⟨f,c,e,a1,a2,a3⟩:=i2 r hm
     exact⟨f,c,e,a1,by omega,a3⟩
    ·rcases Nat.eq_or_lt_of_le (show s≤k by omega) with e|e
     ·subst e;exact absurd h2 hnf
     ·exact i5 s (by omega) h2
   ·rw[runsTo_run hr hf hc] at h
    simp only[Prod.mk.injEq] at h
    obtain⟨rfl,rfl⟩:=h
    have e1:((k:Int) - (c':Int),(c':Int))=(((k - c':Nat):Int),(c':Int)):=by rw[Int.natCast_sub i1]
    refine⟨by omega,fun r hm=>?_,fun s h1 h2=>by omega,Or.inr (by simpa using hnf),fun s h1 h2=>?_,?_⟩
    ·rcases List.mem_append.1 hm with hm|hm
     ·obtain⟨f,c,e,a1,a2,a3⟩:=i2 r hm
      exact⟨f,c,e,a1,by omega,a3⟩
     ·simp only[List.mem_singleton] at hm
      subst hm
      refine⟨k - c',c',e1,hc,by omega,fun s h1 h2=>i3 s h1 (by omega),?_,i4⟩
      rw[Nat.sub_add_cancel i1];exact hnf
    ·rcases Nat.lt_or_ge s (k - c') with h3|h3
     ·obtain⟨r,hr1,hr2⟩:=i5 s h3 h2
      exact⟨r,List.mem_append_left _ hr1,hr2⟩
     ·refine⟨_,List.mem_append_right _ (List.mem_singleton.2 rfl),?_⟩
      rcases Nat.eq_or_lt_of_le (show s≤k by omega) with e|e
      ·subst e;exact absurd h2 hnf
      ·simp only;omega
    ·rw[sumC_snoc,hp]
     simp only
     omega
  ·have hF:Fr M k:=(freeS_iff hM).1 hf
   have hp:popTo M (k+1)=popTo M k:=by rw[popTo_succ,hf];rfl
   rw[runsTo_free hr hf] at h
   simp only[Prod.mk.injEq] at h
   obtain⟨rfl,rfl⟩:=h
   have e1:k+1 - (c'+1)=k - c':=by omega
   rw[e1]
   refine⟨by omega,i2,fun s h1 h2=>?_,i4,i5,by rw[hp];omega⟩
   rcases Nat.eq_or_lt_of_le (show s≤k by omega) with e|e
   ·subst e;exact hF
   ·exact i3 s h1 e
theorem runs_ok {M:Nat} (hM:M<16777216):(∀ r∈runs (M:Int),RunOk M 24 r)∧(∀ s,Fr M s→∃ r∈runs (M:Int),r.1≤(s:Int)∧(s:Int)<r.1+r.2)∧sumC (runs (M:Int))+(popTo M 24:Int)=24:=by
 rcases h24:runsTo (M:Int) 24 with⟨l,c⟩
 obtain⟨i1,i2,i3,i4,i5,i6⟩:=runs_inv hM h24
 have hnf:freeS (M:Int) 24=false:=freeS_end (by omega)
 have hn24:¬ Fr M 24:=fun h=>by have:=h.1;omega
 rcases Nat.eq_zero_or_pos c with rfl|hc
 ·have hr:runs (M:Int)=l:=runs_end h24 (by omega) (by omega)
  rw[hr]
  exact⟨i2,fun s hs=>i5 s hs.1 hs,by omega⟩
 ·have hr:runs (M:Int)=l++[(((24:Nat):Int) - (c:Int),(c:Int))]:=by
   have:=runsTo_run h24 hnf hc
   exact runs_end this (by omega) (by omega)
  have e1:(((24:Nat):Int) - (c:Int),(c:Int))=(((24 - c:Nat):Int),(c:Int)):=by rw[Int.natCast_sub i1]
  rw[hr]
  refine⟨fun r hm=>?_,fun s hs=>?_,?_⟩
  ·rcases List.mem_append.1 hm with hm|hm
   ·obtain⟨f,c2,e,a1,a2,a3⟩:=i2 r hm
    exact⟨f,c2,e,a1,by omega,a3⟩
   ·simp only[List.mem_singleton] at hm
    subst hm
    refine⟨24 - c,c,e1,hc,by omega,fun s h1 h2=>i3 s h1 (by omega),?_,i4⟩
    rw[Nat.sub_add_cancel i1];exact hn24
  ·rcases Nat.lt_or_ge s (24 - c) with h3|h3
   ·obtain⟨r,hr1,hr2⟩:=i5 s h3 hs
    exact⟨r,List.mem_append_left _ hr1,hr2⟩
   ·refine⟨_,List.mem_append_right _ (List.mem_singleton.2 rfl),?_⟩
    have:=hs.1
    simp only;omega
  ·rw[sumC_snoc]
   simp only
   omega
theorem bestR_mem (c:Int) (l:List (Int × Int)):bestR c l=(0,0)∨bestR c l∈l:=by
 suffices h:∀ (l:List (Int × Int)) (b:Int × Int),l.foldl (bstep c) b=b∨l.foldl (bstep c) b∈l from h l (0,0)
 intro l
 induction l with
 | nil=>intro b;exact Or.inl rfl
 | cons r l ih =>
  intro b
  rw[List.foldl_cons]
  rcases ih (bstep c b r) with h|h
  ·rw[h]
   unfold bstep
   split
   ·exact Or.inr (List.mem_cons_self ..)
   ·exact Or.inl rfl
  ·exact Or.inr (List.mem_cons_of_mem _ h)
theorem bestR_none {c:Int} (_hc:1≤c):∀ {l:List (Int × Int)},(∀ r∈l,1≤r.2)→(bestR c l).2=0→∀ r∈l,r.2<c:=by
 suffices h:∀ (l:List (Int × Int)) (b:Int × Int),(∀ r∈l,1≤r.2)→0≤b.2→(l.foldl (bstep c) b).2=0→b.2=0∧∀ r∈l,r.2<c from fun {l} hl h0=>(h l (0,0) hl (Int.le_refl _) h0).2
 intro l
 induction l with
 | nil=>intro b _ _ h;exact⟨h,fun r hr=>(by cases hr)⟩
 | cons r l ih =>
  intro b hl hb h
  rw[List.foldl_cons] at h
  have hr1:=hl r (List.mem_cons_self ..)
  obtain⟨h1,h2⟩:=ih (bstep c b r) (fun r hr=>hl r (List.mem_cons_of_mem _ hr)) (by unfold bstep;split <;> omega) h
  unfold bstep at h1
  split at h1
  ·omega
  ·rename_i hn
   refine⟨h1,fun x hx=>?_⟩
   rcases List.mem_cons.1 hx with rfl|hx
   ·have:¬ c≤x.2:=fun hcx=>hn ⟨hcx,Or.inl h1⟩
    omega
   ·exact h2 x hx
theorem mem_fits {m c x:Int}:x∈fits m c↔∃ f:Nat,x=(f:Int)∧f<(25 - c).toNat∧freeAt m c (f:Int)=true:=by
 unfold fits fitsTo
 rw[List.mem_filter,List.mem_map]
 constructor
 ·rintro⟨⟨f,hf,rfl⟩,h⟩
  exact⟨f,rfl,List.mem_range.1 hf,h⟩
 ·rintro⟨f,rfl,hf,h⟩
  exact⟨⟨f,List.mem_range.2 hf,rfl⟩,h⟩
theorem grow_run {M f c x d:Nat} (h1:¬ Fr M (f+c)) (_h2:f=0∨¬ Fr M (f - 1)) (_hx1:f≤x) (hx2:x<f+c) (hd:∀ s,x≤s→s<x+d→Fr M s):x+d≤f+c:=by
 rcases Nat.lt_or_ge (f+c) (x+d) with h|h
 ·exact absurd (hd (f+c) (by omega) h) h1
 ·exact h
theorem best_fits {M:Nat} (hM:M<16777216) {c:Int} (h1:1≤c) (h2:c≤24):((bestR c (runs (M:Int))).2≠0↔fits (M:Int) c≠[])∧((bestR c (runs (M:Int))).2≠0→(bestR c (runs (M:Int))).1∈fits (M:Int) c):=by
 obtain⟨r1,r2,_⟩:=runs_ok hM
 obtain⟨d,rfl⟩:∃ d:Nat,c=(d:Int):=⟨c.toNat,by omega⟩
 have hpos:∀ r∈runs (M:Int),1≤r.2:=fun r hr=>by
  obtain⟨f,c,rfl,a1,_⟩:=r1 r hr
  simp only;omega
 have hin:(bestR (d:Int) (runs (M:Int))).2≠0→(bestR (d:Int) (runs (M:Int))).1∈fits (M:Int) (d:Int):=by
  intro h0
  rcases bestR_mem (d:Int) (runs (M:Int)) with hb|hb
  ·rw[hb] at h0;exact absurd rfl h0
  ·obtain⟨f,c,e,a1,a2,a3,_⟩:=r1 _ hb
   have hle:(d:Int)≤(bestR (d:Int) (runs (M:Int))).2:=by
    rcases bestR_or (d:Int) (runs (M:Int)) with h|h
    ·rw[h] at h0;exact absurd rfl h0
    ·exact h
   rw[e] at hle ⊢
   simp only at hle ⊢
   refine mem_fits.2 ⟨f,rfl,by omega,(freeAt_iff hM (by omega) (by omega)).2 fun s hs1 hs2=>a3 s hs1 (by omega)⟩
 refine⟨⟨fun h=>List.ne_nil_of_mem (hin h),fun h h0=>?_⟩,hin⟩
 obtain⟨x,hx⟩:=List.exists_mem_of_ne_nil _ h
 obtain⟨y,rfl,hy,hf⟩:=mem_fits.1 hx
 have hfree:=(freeAt_iff hM (by omega) (by omega)).1 hf
 obtain⟨r,hr,hr1,hr2⟩:=r2 y (hfree y (Nat.le_refl _) (by omega))
 have hlt:=bestR_none (by omega) hpos h0 r hr
 obtain⟨f,c,rfl,a1,a2,a3,a4,a5⟩:=r1 r hr
 simp only at hr1 hr2 hlt
 have:=grow_run a4 a5 (show f≤y by omega) (show y<f+c by omega) hfree
 have h6:f≤y:=by omega
 rcases Nat.eq_or_lt_of_le h6 with e|e
 ·omega
 ·omega
end Go.Proofs.YteckjlkhopkogaaGreat
