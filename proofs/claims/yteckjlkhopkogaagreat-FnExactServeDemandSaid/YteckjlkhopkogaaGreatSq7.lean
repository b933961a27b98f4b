/- Contracts: what may be asked; ServeDemand and RouteChoices on both sides. -/
import Derived.Test.YteckjlkhopkogaaGreatSq6
import Derived.Test.YteckjlkhopkogaaGreatFq
namespace Go.Proofs.YteckjlkhopkogaaGreat
open Go.RowKit Go.PlainAid
theorem isRule_any (fit:Int) (w:World):Calls Tryz.prog 74 #[.int .i64 fit] w fun e w'=>e = .returned (.bool (inB fit 1 3))∧w' = w:=by
 have HC:=Lib.hid (within_any fit 1 3 w)
 go_enter Tryz.func74,Tryz.ntmps74
 go_wp2_with fail
 refine (HC.out).mono ?_
 rintro e w1 ⟨rfl,rfl⟩
 go_wp2
 go_ret
 exact ⟨rfl,rfl⟩
/-- Whether a plan, formats, demands and a rule may be asked. -/
def askS (P:PlanV) (fm:List (Int × Int)) (ds:List Fib) (fit:Int):Bool:=planB P && fmtsB fm && demsB P.net ds && inB fit 1 3
theorem askS_one {P:PlanV} {fm:List (Int × Int)} {d:Fib} {fit:Int}:askS P fm [d] fit = (planB P && usB P.net fm d && inB fit 1 3):=by
 cases h:planB P
 ·simp [askS,h]
 ·have hn:=(planB_at h).1
  unfold askS usB demsB
  rw [h,hn]
  simp
theorem askS_us {P:PlanV} {fm:List (Int × Int)} {ds:List Fib} {fit:Int} (h:askS P fm ds fit = true):planB P = true∧(∀ d ∈ ds,usB P.net fm d = true)∧inB fit 1 3 = true∧ds.length ≤ 12:=by
 unfold askS at h
 simp only [Bool.and_eq_true] at h
 obtain ⟨⟨⟨h1,h2⟩,h3⟩,h4⟩:=h
 unfold demsB at h3
 simp only [Bool.and_eq_true,decide_eq_true_eq,List.all_eq_true] at h3
 refine ⟨h1,fun d hd=>?_,h4,h3.1.1⟩
 unfold usB
 rw [h2,h3.1.2,h3.2 d hd]; rfl
set_option maxHeartbeats 2000000 in
set_option maxRecDepth 20000 in
theorem l11Asked_any (v:Value) (P:PlanV) (pf:Option Addr) (cf:Nat) (fm:List (Int × Int)) (pd:Option Addr) (cd:Nat) (ds:List Fib) (fit:Int) (w:World) (h:PlIn w v P) (hfm:Prs w pf fm) (hfl:fm.length ≤ 1048576) (hd:Fibs w pd ds) (hdl:ds.length ≤ 1048576) :
  Calls Tryz.prog 64 #[v, .slice pf fm.length cf, .slice pd ds.length cd, .int .i64 fit] w fun e w'=>e = .returned (.bool (askS P fm ds fit))∧Fresh w w':=by
 have HPL:=Lib.hid h
 have HPF:=Lib.hid hfm
 have HDS:=Lib.hid hd
 obtain ⟨q,m,c,p,k0,e1,r,i0,e0,rfl⟩:=h.shape
 obtain ⟨W2,hW2⟩:∃ W,W = w.alloc (.cells #[.slice q m c, .slice p k0 e1, .slice r i0 e0] 38):=⟨_,rfl⟩
 have hf2:Fresh w W2:=by rw [hW2]; exact fnew (frefl _) _
 have hr2:RowAt W2 w.heap.size 38 [.slice q m c, .slice p k0 e1, .slice r i0 e0]:=by rw [hW2]; exact RowAt.new _ _ _
 have HC1:=Lib.hid (l9Good_any _ P W2 (HPL.out.keep hf2))
 have HC2:Hid (∀ W,Fresh W2 W→Calls Tryz.prog 107 #[.slice pf fm.length cf] W fun e w'=>e = .returned (.bool (fmtsB fm))∧Fresh W w'):=fun W hW=>l10Formats_any pf cf fm W (HPF.out.keep (fstep hf2 hW)) hfl
 have HC3:Hid (∀ W,Fresh W2 W→Calls Tryz.prog 108 #[.agg #[.slice q m c, .slice p k0 e1], .slice pd ds.length cd] W fun e w'=>e = .returned (.bool (demsB P.net ds))∧Fresh W w'):=fun W hW=>l10Demands_any _ P.net pd cd ds W (HPL.out.net.keep (fstep hf2 hW)) (HDS.out.keep (fstep hf2 hW)) hdl
 have HC4:Hid (∀ W,Calls Tryz.prog 109 #[.int .i64 fit, .int .i64 1, .int .i64 3] W fun e w'=>e = .returned (.bool (inB fit 1 3))∧W = w'):=fun W=>l1In_any fit 1 3 W
 have HF2:=Lib.hid hf2
 have HR2:=Lib.hid hr2
 have HW2:=Lib.hid hW2
 have HV:Hid (askS P fm ds fit = (planB P && fmtsB fm && demsB P.net ds && inB fit 1 3)):=rfl
 rw [HV.out]
 clear h hfm hd hf2 hr2 hW2 HV
 obtain ⟨b1,hb1⟩:∃ b:Bool,b = planB P:=⟨_,rfl⟩
 obtain ⟨b2,hb2⟩:∃ b:Bool,b = fmtsB fm:=⟨_,rfl⟩
 obtain ⟨b3,hb3⟩:∃ b:Bool,b = demsB P.net ds:=⟨_,rfl⟩
 obtain ⟨b4,hb4⟩:∃ b:Bool,b = inB fit 1 3:=⟨_,rfl⟩
 rw [← hb1] at HC1
 rw [← hb2] at HC2
 rw [← hb3] at HC3
 rw [← hb4] at HC4
 rw [← hb1,← hb2,← hb3,← hb4]
 clear hb1 hb2 hb3 hb4
 cases b1
 ·simp only [Bool.false_and]
  go_enter Tryz.func64,Tryz.ntmps64
  go_wp2_with fail
  rw [← HW2.out]
  refine (HC1.out).mono ?_
  rintro e w1 ⟨rfl,hb⟩
  have HF11:Hid (Fresh W2 w1):=hb
  clear hb
  go_wp2
  go_ret
  exact ⟨rfl,fstep HF2.out HF11.out⟩
 cases b2
 ·simp only [Bool.false_and,Bool.and_false]
  go_enter Tryz.func64,Tryz.ntmps64
  go_wp2_with fail
  rw [← HW2.out]
  refine (HC1.out).mono ?_
  rintro e w1 ⟨rfl,hb⟩
  have HF11:Hid (Fresh W2 w1):=hb
  clear hb
  go_wp2_with fail
  refine (HC2.out w1 (HF11.out)).mono ?_
  rintro e w2 ⟨rfl,hb⟩
  have HF12:Hid (Fresh W2 w2):=fstep HF11.out hb
  have a0:=(HR2.out.keep HF12.out).cell (i:=0) rfl
  have a1:=(HR2.out.keep HF12.out).cell (i:=1) rfl
  clear hb
  go_wp2
  go_ret
  exact ⟨rfl,fstep HF2.out HF12.out⟩
 cases b3
 ·simp only [Bool.false_and,Bool.and_false,Bool.true_and]
  go_enter Tryz.func64,Tryz.ntmps64
  go_wp2_with fail
  rw [← HW2.out]
  refine (HC1.out).mono ?_
  rintro e w1 ⟨rfl,hb⟩
  have HF11:Hid (Fresh W2 w1):=hb
  clear hb
  go_wp2_with fail
  refine (HC2.out w1 (HF11.out)).mono ?_
  rintro e w2 ⟨rfl,hb⟩
  have HF12:Hid (Fresh W2 w2):=fstep HF11.out hb
  have a0:=(HR2.out.keep HF12.out).cell (i:=0) rfl
  have a1:=(HR2.out.keep HF12.out).cell (i:=1) rfl
  clear hb
  go_wp2_with fail
  refine (HC3.out w2 (HF12.out)).mono ?_
  rintro e w3 ⟨rfl,hb⟩
  have HF13:Hid (Fresh W2 w3):=fstep HF12.out hb
  clear hb
  go_wp2
  go_ret
  exact ⟨rfl,fstep HF2.out HF13.out⟩
 simp only [Bool.true_and]
 go_enter Tryz.func64,Tryz.ntmps64
 go_wp2_with fail
 rw [← HW2.out]
 refine (HC1.out).mono ?_
 rintro e w1 ⟨rfl,hb⟩
 have HF11:Hid (Fresh W2 w1):=hb
 clear hb
 go_wp2_with fail
 refine (HC2.out w1 (HF11.out)).mono ?_
 rintro e w2 ⟨rfl,hb⟩
 have HF12:Hid (Fresh W2 w2):=fstep HF11.out hb
 have a0:=(HR2.out.keep HF12.out).cell (i:=0) rfl
 have a1:=(HR2.out.keep HF12.out).cell (i:=1) rfl
 clear hb
 go_wp2_with fail
 refine (HC3.out w2 (HF12.out)).mono ?_
 rintro e w3 ⟨rfl,hb⟩
 have HF13:Hid (Fresh W2 w3):=fstep HF12.out hb
 clear hb
 go_wp2_with fail
 refine (HC4.out w3).mono ?_
 rintro e w4 ⟨rfl,hw4⟩
 first | subst hw4 | cases hw4
 go_wp2
 go_ret
 exact ⟨rfl,fstep HF2.out HF13.out⟩
set_option maxHeartbeats 2000000 in
set_option maxRecDepth 20000 in
theorem isServing_any (v:Value) (P:PlanV) (pf:Option Addr) (cf:Nat) (fm:List (Int × Int)) (pd:Option Addr) (cd:Nat) (ds:List Fib) (fit:Int) (w:World) (h:PlIn w v P) (hfm:Prs w pf fm) (hfl:fm.length ≤ 1048576) (hd:Fibs w pd ds) (hdl:ds.length ≤ 1048576) :
  Calls Tryz.prog 77 #[v, .slice pf fm.length cf, .slice pd ds.length cd, .int .i64 fit] w fun e w'=>e = .returned (.bool (askS P fm ds fit))∧Fresh w w':=by
 have HPL:=Lib.hid h
 have HPF:=Lib.hid hfm
 have HDS:=Lib.hid hd
 obtain ⟨q,m,c,p,k0,e1,r,i0,e0,rfl⟩:=h.shape
 obtain ⟨W2,hW2⟩:∃ W,W = w.alloc (.cells #[.slice q m c, .slice p k0 e1, .slice r i0 e0] 38):=⟨_,rfl⟩
 have hf2:Fresh w W2:=by rw [hW2]; exact fnew (frefl _) _
 have hr2:RowAt W2 w.heap.size 38 [.slice q m c, .slice p k0 e1, .slice r i0 e0]:=by rw [hW2]; exact RowAt.new _ _ _
 have HC1:=Lib.hid (implIsValidPlan_any _ P W2 (HPL.out.keep hf2))
 have HC2:Hid (∀ W,Fresh W2 W→Calls Tryz.prog 128 #[.slice pf fm.length cf] W fun e w'=>e = .returned (.bool (fmtsB fm))∧Fresh W w'):=fun W hW=>implIsValidFormats_any pf cf fm W (HPF.out.keep (fstep hf2 hW)) hfl
 have HC3:Hid (∀ W,Fresh W2 W→Calls Tryz.prog 129 #[.agg #[.slice q m c, .slice p k0 e1], .slice pd ds.length cd] W fun e w'=>e = .returned (.bool (demsB P.net ds))∧Fresh W w'):=fun W hW=>implIsValidDemands_any _ P.net pd cd ds W (HPL.out.net.keep (fstep hf2 hW)) (HDS.out.keep (fstep hf2 hW)) hdl
 have HC4:Hid (∀ W,Calls Tryz.prog 74 #[.int .i64 fit] W fun e w'=>e = .returned (.bool (inB fit 1 3))∧w' = W):=fun W=>isRule_any fit W
 have HF2:=Lib.hid hf2
 have HR2:=Lib.hid hr2
 have HW2:=Lib.hid hW2
 have HV:Hid (askS P fm ds fit = (planB P && fmtsB fm && demsB P.net ds && inB fit 1 3)):=rfl
 rw [HV.out]
 clear h hfm hd hf2 hr2 hW2 HV
 obtain ⟨b1,hb1⟩:∃ b:Bool,b = planB P:=⟨_,rfl⟩
 obtain ⟨b2,hb2⟩:∃ b:Bool,b = fmtsB fm:=⟨_,rfl⟩
 obtain ⟨b3,hb3⟩:∃ b:Bool,b = demsB P.net ds:=⟨_,rfl⟩
 obtain ⟨b4,hb4⟩:∃ b:Bool,b = inB fit 1 3:=⟨_,rfl⟩
 rw [← hb1] at HC1
 rw [← hb2] at HC2
 rw [← hb3] at HC3
 rw [← hb4] at HC4
 rw [← hb1,← hb2,← hb3,← hb4]
 clear hb1 hb2 hb3 hb4
 cases b1
 ·simp only [Bool.false_and]
  go_enter Tryz.func77,Tryz.ntmps77
  go_wp2_with fail
  rw [← HW2.out]
  refine (HC1.out).mono ?_
  rintro e w1 ⟨rfl,hb⟩
  have HF11:Hid (Fresh W2 w1):=hb
  clear hb
  go_wp2
  go_ret
  exact ⟨rfl,fstep HF2.out HF11.out⟩
 cases b2
 ·simp only [Bool.false_and,Bool.and_false]
  go_enter Tryz.func77,Tryz.ntmps77
  go_wp2_with fail
  rw [← HW2.out]
  refine (HC1.out).mono ?_
  rintro e w1 ⟨rfl,hb⟩
  have HF11:Hid (Fresh W2 w1):=hb
  clear hb
  go_wp2_with fail
  refine (HC2.out w1 (HF11.out)).mono ?_
  rintro e w2 ⟨rfl,hb⟩
  have HF12:Hid (Fresh W2 w2):=fstep HF11.out hb
  have a0:=(HR2.out.keep HF12.out).cell (i:=0) rfl
  have a1:=(HR2.out.keep HF12.out).cell (i:=1) rfl
  clear hb
  go_wp2
  go_ret
  exact ⟨rfl,fstep HF2.out HF12.out⟩
 cases b3
 ·simp only [Bool.false_and,Bool.and_false,Bool.true_and]
  go_enter Tryz.func77,Tryz.ntmps77
  go_wp2_with fail
  rw [← HW2.out]
  refine (HC1.out).mono ?_
  rintro e w1 ⟨rfl,hb⟩
  have HF11:Hid (Fresh W2 w1):=hb
  clear hb
  go_wp2_with fail
  refine (HC2.out w1 (HF11.out)).mono ?_
  rintro e w2 ⟨rfl,hb⟩
  have HF12:Hid (Fresh W2 w2):=fstep HF11.out hb
  have a0:=(HR2.out.keep HF12.out).cell (i:=0) rfl
  have a1:=(HR2.out.keep HF12.out).cell (i:=1) rfl
  clear hb
  go_wp2_with fail
  refine (HC3.out w2 (HF12.out)).mono ?_
  rintro e w3 ⟨rfl,hb⟩
  have HF13:Hid (Fresh W2 w3):=fstep HF12.out hb
  clear hb
  go_wp2
  go_ret
  exact ⟨rfl,fstep HF2.out HF13.out⟩
 simp only [Bool.true_and]
 go_enter Tryz.func77,Tryz.ntmps77
 go_wp2_with fail
 rw [← HW2.out]
 refine (HC1.out).mono ?_
 rintro e w1 ⟨rfl,hb⟩
 have HF11:Hid (Fresh W2 w1):=hb
 clear hb
 go_wp2_with fail
 refine (HC2.out w1 (HF11.out)).mono ?_
 rintro e w2 ⟨rfl,hb⟩
 have HF12:Hid (Fresh W2 w2):=fstep HF11.out hb
 have a0:=(HR2.out.keep HF12.out).cell (i:=0) rfl
 have a1:=(HR2.out.keep HF12.out).cell (i:=1) rfl
 clear hb
 go_wp2_with fail
 refine (HC3.out w2 (HF12.out)).mono ?_
 rintro e w3 ⟨rfl,hb⟩
 have HF13:Hid (Fresh W2 w3):=fstep HF12.out hb
 clear hb
 go_wp2_with fail
 refine (HC4.out w3).mono ?_
 rintro e w4 ⟨rfl,hw4⟩
 first | subst hw4 | cases hw4
 go_wp2
 go_ret
 exact ⟨rfl,fstep HF2.out HF13.out⟩
/-- What serving a demand by a rule gives. -/
def sdF (P:PlanV) (fm:List (Int × Int)) (d:Fib) (fit:Int):PlanV × Int × Bool:=if (planB P && inB fit 1 3) = true then serveF P fm d fit else (zeroP,0,false)
theorem sdF_no {P:PlanV} {fm:List (Int × Int)} {d:Fib} {fit:Int} (h:(planB P && inB fit 1 3) = false):sdF P fm d fit = (zeroP,0,false):=by unfold sdF; rw [if_neg (by rw [h]; simp)]
theorem sdF_yes {P:PlanV} {fm:List (Int × Int)} {d:Fib} {fit:Int} (h:planB P = true) (h2:inB fit 1 3 = true):sdF P fm d fit = serveF P fm d fit:=by unfold sdF; rw [h,h2]; rfl
theorem sdF_un {P:PlanV} {fm:List (Int × Int)} {d:Fib} {fit:Int} (h:askS P fm [d] fit = false):sdF P fm d fit = (zeroP,0,false):=by
 rw [askS_one] at h
 cases h1:planB P
 ·exact sdF_no (by rw [h1]; rfl)
 ·cases h3:inB fit 1 3
  ·exact sdF_no (by rw [h1,h3]; rfl)
  ·rw [sdF_yes h1 h3]
   refine serveF_no ?_
   rw [h1,h3] at h
   simp only [Bool.true_and,Bool.and_true] at h
   unfold usOk; rw [h]; rfl
def rcL (P:PlanV) (fm:List (Int × Int)) (d:Fib):List LtV:=if planB P = true then consL P fm d 1 else []
def rcB (P:PlanV) (fm:List (Int × Int)) (d:Fib):Bool:=planB P && usOk P.net fm d
theorem rc_no {P:PlanV} {fm:List (Int × Int)} {d:Fib} (h:planB P = false):rcL P fm d = []∧rcB P fm d = false:=by unfold rcL rcB; rw [h]; exact ⟨rfl,rfl⟩
theorem rc_yes {P:PlanV} {fm:List (Int × Int)} {d:Fib} (h:planB P = true):rcL P fm d = consL P fm d 1∧rcB P fm d = usOk P.net fm d:=by unfold rcL rcB; rw [h]; exact ⟨rfl,rfl⟩
theorem rc_un {P:PlanV} {fm:List (Int × Int)} {d:Fib} (h:askS P fm [d] 1 = false):rcL P fm d = []∧rcB P fm d = false:=by
 rw [askS_one] at h
 cases h1:planB P
 ·exact rc_no h1
 ·obtain ⟨a,b⟩:=rc_yes (fm:=fm) (d:=d) h1
  rw [a,b]
  rw [h1] at h
  have h2:usB P.net fm d = false:=by simpa [inB] using h
  have h3:usOk P.net fm d = false:=by unfold usOk; rw [h2]; rfl
  exact ⟨consL_no h3,h3⟩
def OutRc (P:PlanV) (fm:List (Int × Int)) (d:Fib) (w:World) (e:Ending) (w':World):Prop:=∃ (V:Value) (l:List LL),e = .returned (.tuple #[V, .bool (rcB P fm d)])∧Lso w' w.heap.size V l∧l.map LL.val = rcL P fm d∧Fresh w w'
def OutSd (P:PlanV) (fm:List (Int × Int)) (d:Fib) (fit:Int) (w:World) (e:Ending) (w':World):Prop:=∃ v',e = .returned (.tuple #[v', .int .i64 (sdF P fm d fit).2.1, .bool (sdF P fm d fit).2.2])∧PlOwn w' w.heap.size v' (sdF P fm d fit).1∧Fresh w w'
set_option maxHeartbeats 4000000 in
set_option maxRecDepth 100000 in
theorem implServeDemand_any (v:Value) (P:PlanV) (pf:Option Addr) (cf:Nat) (fm:List (Int × Int)) (d:Fib) (fit:Int) (w:World) (h:PlIn w v P) (hfm:Prs w pf fm) (hfl:fm.length ≤ 1048576) :
  Calls Tryz.prog 31 #[v, .slice pf fm.length cf,fibV d, .int .i64 fit] w (OutSd P fm d fit w):=by
 have HPL:=Lib.hid h
 have HPF:=Lib.hid hfm
 obtain ⟨q,m,c,p,k0,e1,r,i0,e0,rfl⟩:=h.shape
 obtain ⟨W3,hW3,hsz3,hf3,r1,r2,r3⟩:=three_rows w [.slice q m c, .slice p k0 e1, .slice r i0 e0] [.int .i64 d.a, .int .i64 d.b, .int .i64 d.len, .int .i64 d.risk] [.slice none 0 0, .slice none 0 0, .slice none 0 0] 38 59 38
 have HC1:=Lib.hid (implIsValidPlan_any _ P W3 (HPL.out.keep hf3))
 have HC3:Hid (planB P = true→∀ W,Fresh W3 W→Calls Tryz.prog 75 #[.agg #[.slice q m c, .slice p k0 e1, .slice r i0 e0], .slice pf fm.length cf,fibV d, .int .i64 fit] W (OutSv P fm d fit W)):=fun hp W hW=>implServe_any _ P pf cf fm d fit W (HPL.out.keep (fstep hf3 hW)) (HPF.out.keep (fstep hf3 hW)) hfl hp
 have HF3:=Lib.hid hf3
 have HR1:=Lib.hid r1
 have HR2:=Lib.hid r2
 have HR3:=Lib.hid r3
 have HW3:=Lib.hid hW3
 have hsz:=hf3.size
 clear h hfm hf3 r1 r2 r3 hW3
 cases hpl:planB P
 ·have HA:=Lib.hid (sdF_no (fm:=fm) (d:=d) (show (planB P && inB fit 1 3) = false by rw [hpl]; rfl))
  rw [hpl] at HC1
  clear hpl HC3
  go_enter Tryz.func31,Tryz.ntmps31
  go_wp2_with fail
  rw [← HW3.out]
  refine (HC1.out).mono ?_
  rintro e w1 ⟨rfl,hb⟩
  have HB:=Lib.hid hb
  clear hb HC1
  have hz:=HR3.out.keep HB.out
  have x0:=hz.cell (i:=0) rfl
  have x1:=hz.cell (i:=1) rfl
  have x2:=hz.cell (i:=2) rfl
  have u0:=hz.frozen 0
  have u1:=hz.frozen 1
  have u2:=hz.frozen 2
  have hfin:=((hz.set 0 (.slice none 0 0)).set 1 (.slice none 0 0)).set 2 (.slice none 0 0)
  have k0:=hfin.cell (i:=0) rfl
  have k1:=hfin.cell (i:=1) rfl
  have k2:=hfin.cell (i:=2) rfl
  clear hz hfin
  go_wp2
  refine bodyPost_ret (v:=.tuple #[.agg #[.slice none 0 0, .slice none 0 0, .slice none 0 0], .int .i64 0, .bool false]) (by simp [results,Tryz.results31,go_sem,k0,k1,k2]) rfl ?_
  unfold OutSd
  rw [HA.out]
  exact ⟨_,rfl,zeroP_own _ _,fset (fset (fset (fstep HF3.out HB.out) (by omega) _) (by omega) _) (by omega) _⟩
 ·rw [hpl] at HC1
  cases hin:inB fit 1 3
  ·have HIN:=Lib.hid hin
   have HA:=Lib.hid (sdF_no (fm:=fm) (d:=d) (show (planB P && inB fit 1 3) = false by rw [hin,Bool.and_false]))
   have HRU:Hid (∀ W,Calls Tryz.prog 74 #[.int .i64 fit] W fun e w'=>e = .returned (.bool false)∧w' = W):=fun W=>by
    have:=isRule_any fit W
    rwa [hin] at this
   clear hin hpl HC3
   go_enter Tryz.func31,Tryz.ntmps31
   go_wp2_with fail
   rw [← HW3.out]
   refine (HC1.out).mono ?_
   rintro e w1 ⟨rfl,hb⟩
   have HB:=Lib.hid hb
   clear hb HC1
   go_wp2_with fail
   refine (HRU.out w1).mono ?_
   rintro e w2 ⟨rfl,rfl⟩
   have hz:=HR3.out.keep HB.out
   have x0:=hz.cell (i:=0) rfl
   have x1:=hz.cell (i:=1) rfl
   have x2:=hz.cell (i:=2) rfl
   have u0:=hz.frozen 0
   have u1:=hz.frozen 1
   have u2:=hz.frozen 2
   have hfin:=((hz.set 0 (.slice none 0 0)).set 1 (.slice none 0 0)).set 2 (.slice none 0 0)
   have k0:=hfin.cell (i:=0) rfl
   have k1:=hfin.cell (i:=1) rfl
   have k2:=hfin.cell (i:=2) rfl
   clear hz hfin
   go_wp2
   refine bodyPost_ret (v:=.tuple #[.agg #[.slice none 0 0, .slice none 0 0, .slice none 0 0], .int .i64 0, .bool false]) (by simp [results,Tryz.results31,go_sem,k0,k1,k2]) rfl ?_
   unfold OutSd
   rw [HA.out]
   exact ⟨_,rfl,zeroP_own _ _,fset (fset (fset (fstep HF3.out HB.out) (by omega) _) (by omega) _) (by omega) _⟩
  ·have HIN:=Lib.hid hin
   have HSD:=Lib.hid (sdF_yes (fm:=fm) (d:=d) hpl hin)
   have HC9:=Lib.hid (HC3.out hpl)
   have HRU:Hid (∀ W,Calls Tryz.prog 74 #[.int .i64 fit] W fun e w'=>e = .returned (.bool true)∧w' = W):=fun W=>by
    have:=isRule_any fit W
    rwa [hin] at this
   clear hin hpl HC3
   go_enter Tryz.func31,Tryz.ntmps31
   go_wp2_with fail
   rw [← HW3.out]
   refine (HC1.out).mono ?_
   rintro e w1 ⟨rfl,hb⟩
   have HB:=Lib.hid hb
   clear hb HC1
   go_wp2_with fail
   refine (HRU.out w1).mono ?_
   rintro e w2 ⟨rfl,rfl⟩
   have a0:=(HR1.out.keep HB.out).cell (i:=0) rfl
   have a1:=(HR1.out.keep HB.out).cell (i:=1) rfl
   have a2:=(HR1.out.keep HB.out).cell (i:=2) rfl
   have d0:=(HR2.out.keep HB.out).cell (i:=0) rfl
   have d1:=(HR2.out.keep HB.out).cell (i:=1) rfl
   have d2:=(HR2.out.keep HB.out).cell (i:=2) rfl
   have d3:=(HR2.out.keep HB.out).cell (i:=3) rfl
   go_wp2_with fail
   refine (HC9.out _ HB.out).mono ?_
   rintro e w9 ⟨v1,rfl,ho,hb⟩
   obtain ⟨a0',a1',a2',b0,b1,b2,c0,c1,c2,rfl⟩:=ho.shape
   have HFF:=Lib.hid (fstep HB.out hb)
   have hz:=HR3.out.keep HFF.out
   have x0:=hz.cell (i:=0) rfl
   have x1:=hz.cell (i:=1) rfl
   have x2:=hz.cell (i:=2) rfl
   have u0:=hz.frozen 0
   have u1:=hz.frozen 1
   have u2:=hz.frozen 2
   have hfin:=((hz.set 0 (.slice a0' a1' a2')).set 1 (.slice b0 b1 b2)).set 2 (.slice c0 c1 c2)
   have k0:=hfin.cell (i:=0) rfl
   have k1:=hfin.cell (i:=1) rfl
   have k2:=hfin.cell (i:=2) rfl
   have HO:=Lib.hid (ho.mono (Nat.le_trans hsz (HB.out).size))
   have HZ:=Lib.hid hz
   clear ho hz hb hfin a0 a1 a2 d0 d1 d2 d3
   obtain ⟨S,hS⟩:∃ S,S = serveF P fm d fit:=⟨_,rfl⟩
   have HS:=Lib.hid hS
   rw [← hS] at HO ⊢
   clear hS
   go_wp2
   refine bodyPost_ret (v:=.tuple #[.agg #[.slice a0' a1' a2', .slice b0 b1 b2, .slice c0 c1 c2], .int .i64 S.2.1, .bool S.2.2]) (by simp [results,Tryz.results31,go_sem,k0,k1,k2]) rfl ?_
   unfold OutSd
   rw [HSD.out,← HS.out]
   exact ⟨_,rfl,HO.out.box HZ.out,fset (fset (fset (fstep HF3.out HFF.out) (by omega) _) (by omega) _) (by omega) _⟩
set_option maxHeartbeats 4000000 in
set_option maxRecDepth 100000 in
theorem specServeDemand_any (v:Value) (P:PlanV) (pf:Option Addr) (cf:Nat) (fm:List (Int × Int)) (d:Fib) (fit:Int) (w:World) (h:PlIn w v P) (hfm:Prs w pf fm) (hfl:fm.length ≤ 1048576) :
  Calls Tryz.prog 30 #[v, .slice pf fm.length cf,fibV d, .int .i64 fit] w (OutSd P fm d fit w):=by
 have HPL:=Lib.hid h
 have HPF:=Lib.hid hfm
 obtain ⟨q,m,c,p,k0,e1,r,i0,e0,rfl⟩:=h.shape
 obtain ⟨W3,hW3,hsz3,hf3,r1,r2,r3⟩:=three_rows w [.slice q m c, .slice p k0 e1, .slice r i0 e0] [.int .i64 d.a, .int .i64 d.b, .int .i64 d.len, .int .i64 d.risk] [.slice none 0 0, .slice none 0 0, .slice none 0 0] 38 59 38
 obtain ⟨W4,hW4⟩:∃ W,W = W3.alloc (.cells #[.int .i64 d.a, .int .i64 d.b, .int .i64 d.len, .int .i64 d.risk] 59):=⟨_,rfl⟩
 have hf4:Fresh W3 W4:=by rw [hW4]; exact fnew (frefl _) _
 have hr4:RowAt W4 W3.heap.size 59 [.int .i64 d.a, .int .i64 d.b, .int .i64 d.len, .int .i64 d.risk]:=by rw [hW4]; exact RowAt.new _ _ _
 rw [hsz3] at hr4
 have HC1:=Lib.hid (l11Asked_any (.agg #[.slice q m c, .slice p k0 e1, .slice r i0 e0]) P pf cf fm (some ⟨w.heap.size + 1 + 1 + 1,0,none⟩) 1 [d] fit W4 (HPL.out.keep (fstep hf3 hf4)) (HPF.out.keep (fstep hf3 hf4)) hfl hr4.cells (by simp))
 have HW4:=Lib.hid hW4
 have HC3:Hid (planB P = true→usB P.net fm d = true→∀ W,Fresh W3 W→Calls Tryz.prog 73 #[.agg #[.slice q m c, .slice p k0 e1, .slice r i0 e0], .slice pf fm.length cf,fibV d, .int .i64 fit] W (OutSv P fm d fit W)):=fun hp hu W hW=>l11Serve_any _ P pf cf fm d fit W (HPL.out.keep (fstep hf3 hW)) (HPF.out.keep (fstep hf3 hW)) hfl hp hu
 have HF4:=Lib.hid hf4
 have HF3:=Lib.hid hf3
 have HR1:=Lib.hid r1
 have HR2:=Lib.hid r2
 have HR3:=Lib.hid r3
 have HW3:=Lib.hid hW3
 have hsz:=hf3.size
 clear h hfm hf3 r1 r2 r3 hW3 hf4 hr4 hW4
 cases hask:askS P fm [d] fit
 ·have HA:=Lib.hid hask
  rw [hask] at HC1
  clear hask
  go_enter Tryz.func30,Tryz.ntmps30
  go_wp2_with fail
  rw [← HW3.out]
  try rw [← HW4.out]
  refine (HC1.out).mono ?_
  rintro e w1 ⟨rfl,hb⟩
  have HB:=Lib.hid (fstep HF4.out hb)
  clear hb HC1
  have hz:=HR3.out.keep HB.out
  have x0:=hz.cell (i:=0) rfl
  have x1:=hz.cell (i:=1) rfl
  have x2:=hz.cell (i:=2) rfl
  have u0:=hz.frozen 0
  have u1:=hz.frozen 1
  have u2:=hz.frozen 2
  have hfin:=((hz.set 0 (.slice none 0 0)).set 1 (.slice none 0 0)).set 2 (.slice none 0 0)
  have k0:=hfin.cell (i:=0) rfl
  have k1:=hfin.cell (i:=1) rfl
  have k2:=hfin.cell (i:=2) rfl
  clear hz hfin
  go_wp2
  refine bodyPost_ret (v:=.tuple #[.agg #[.slice none 0 0, .slice none 0 0, .slice none 0 0], .int .i64 0, .bool false]) (by simp [results,Tryz.results30,go_sem,k0,k1,k2]) rfl ?_
  unfold OutSd
  rw [sdF_un HA.out]
  exact ⟨_,rfl,zeroP_own _ _,fset (fset (fset (fstep HF3.out HB.out) (by omega) _) (by omega) _) (by omega) _⟩
 ·have HA:=Lib.hid hask
  rw [hask] at HC1
  clear hask
  go_enter Tryz.func30,Tryz.ntmps30
  go_wp2_with fail
  rw [← HW3.out]
  try rw [← HW4.out]
  refine (HC1.out).mono ?_
  rintro e w1 ⟨rfl,hb⟩
  have HB:=Lib.hid (fstep HF4.out hb)
  clear hb HC1
  obtain ⟨hp1,hu1,hi1,_⟩:=askS_us HA.out
  have HC9:=Lib.hid (HC3.out hp1 (hu1 d (by simp)) w1 HB.out)
  have HSD:=Lib.hid (sdF_yes (fm:=fm) (d:=d) hp1 hi1)
  clear hp1 hu1 hi1 HC3
  have a0:=(HR1.out.keep HB.out).cell (i:=0) rfl
  have a1:=(HR1.out.keep HB.out).cell (i:=1) rfl
  have a2:=(HR1.out.keep HB.out).cell (i:=2) rfl
  have d0:=(HR2.out.keep HB.out).cell (i:=0) rfl
  have d1:=(HR2.out.keep HB.out).cell (i:=1) rfl
  have d2:=(HR2.out.keep HB.out).cell (i:=2) rfl
  have d3:=(HR2.out.keep HB.out).cell (i:=3) rfl
  go_wp2_with fail
  refine (HC9.out).mono ?_
  rintro e w9 ⟨v1,rfl,ho,hb⟩
  obtain ⟨a0',a1',a2',b0,b1,b2,c0,c1,c2,rfl⟩:=ho.shape
  have HFF:=Lib.hid (fstep HB.out hb)
  have hz:=HR3.out.keep HFF.out
  have x0:=hz.cell (i:=0) rfl
  have x1:=hz.cell (i:=1) rfl
  have x2:=hz.cell (i:=2) rfl
  have u0:=hz.frozen 0
  have u1:=hz.frozen 1
  have u2:=hz.frozen 2
  have hfin:=((hz.set 0 (.slice a0' a1' a2')).set 1 (.slice b0 b1 b2)).set 2 (.slice c0 c1 c2)
  have k0:=hfin.cell (i:=0) rfl
  have k1:=hfin.cell (i:=1) rfl
  have k2:=hfin.cell (i:=2) rfl
  have HO:=Lib.hid (ho.mono (Nat.le_trans hsz (HB.out).size))
  have HZ:=Lib.hid hz
  clear ho hz hb hfin a0 a1 a2 d0 d1 d2 d3
  obtain ⟨S,hS⟩:∃ S,S = serveF P fm d fit:=⟨_,rfl⟩
  have HS:=Lib.hid hS
  rw [← hS] at HO ⊢
  clear hS
  go_wp2
  refine bodyPost_ret (v:=.tuple #[.agg #[.slice a0' a1' a2', .slice b0 b1 b2, .slice c0 c1 c2], .int .i64 S.2.1, .bool S.2.2]) (by simp [results,Tryz.results30,go_sem,k0,k1,k2]) rfl ?_
  unfold OutSd
  rw [HSD.out,← HS.out]
  exact ⟨_,rfl,HO.out.box HZ.out,fset (fset (fset (fstep HF3.out HFF.out) (by omega) _) (by omega) _) (by omega) _⟩
set_option maxHeartbeats 4000000 in
set_option maxRecDepth 100000 in
theorem implRouteChoices_any (v:Value) (P:PlanV) (pf:Option Addr) (cf:Nat) (fm:List (Int × Int)) (d:Fib) (w:World) (h:PlIn w v P) (hfm:Prs w pf fm) (hfl:fm.length ≤ 1048576) :
  Calls Tryz.prog 24 #[v, .slice pf fm.length cf,fibV d] w (OutRc P fm d w):=by
 have HPL:=Lib.hid h
 have HPF:=Lib.hid hfm
 obtain ⟨q,m,c,p,k0,e1,r,i0,e0,rfl⟩:=h.shape
 obtain ⟨W3,hW3,hsz3,hf3,r1,r2⟩:=two_rows w [.slice q m c, .slice p k0 e1, .slice r i0 e0] [.int .i64 d.a, .int .i64 d.b, .int .i64 d.len, .int .i64 d.risk] 38 59
 have HC1:=Lib.hid (implIsValidPlan_any _ P W3 (HPL.out.keep hf3))
 have HC3:Hid (planB P = true→∀ W,Fresh W3 W→Calls Tryz.prog 69 #[.agg #[.slice q m c, .slice p k0 e1, .slice r i0 e0], .slice pf fm.length cf,fibV d, .int .i64 1] W (OutK P fm d 1 W)):=fun hp W hW=>considered_any _ P pf cf fm d 1 W (HPL.out.keep (fstep hf3 hW)) (HPF.out.keep (fstep hf3 hW)) hfl hp
 have HF3:=Lib.hid hf3
 have HR1:=Lib.hid r1
 have HR2:=Lib.hid r2
 have HW3:=Lib.hid hW3
 have hsz:=hf3.size
 clear h hfm hf3 r1 r2 hW3
 cases hask:planB P
 ·have HA:=Lib.hid hask
  rw [hask] at HC1
  clear hask
  go_enter Tryz.func24,Tryz.ntmps24
  go_wp2_with fail
  rw [← HW3.out]
  refine (HC1.out).mono ?_
  rintro e w1 ⟨rfl,hb⟩
  have HB:=Lib.hid (hb)
  clear hb HC1
  have HN:=Lib.hid (rc_no (fm:=fm) (d:=d) HA.out)
  go_wp2
  go_ret2
  unfold OutRc
  rw [HN.out.1,HN.out.2]
  exact ⟨_,[],rfl,Lso.nil _ _ ⟨rfl,Or.inl ⟨rfl,rfl⟩⟩,rfl,fstep HF3.out HB.out⟩
 ·have HA:=Lib.hid hask
  rw [hask] at HC1
  clear hask
  go_enter Tryz.func24,Tryz.ntmps24
  go_wp2_with fail
  rw [← HW3.out]
  refine (HC1.out).mono ?_
  rintro e w1 ⟨rfl,hb⟩
  have HB:=Lib.hid (hb)
  clear hb HC1
  have HC9:=Lib.hid (HC3.out HA.out w1 HB.out)
  have HY:=Lib.hid (rc_yes (fm:=fm) (d:=d) HA.out)
  clear HC3
  have a0:=(HR1.out.keep HB.out).cell (i:=0) rfl
  have a1:=(HR1.out.keep HB.out).cell (i:=1) rfl
  have a2:=(HR1.out.keep HB.out).cell (i:=2) rfl
  have d0:=(HR2.out.keep HB.out).cell (i:=0) rfl
  have d1:=(HR2.out.keep HB.out).cell (i:=1) rfl
  have d2:=(HR2.out.keep HB.out).cell (i:=2) rfl
  have d3:=(HR2.out.keep HB.out).cell (i:=3) rfl
  go_wp2_with fail
  refine (HC9.out).mono ?_
  rintro e w9 ⟨V,l,rfl,hl,hv,hb⟩
  have HL:=Lib.hid (hl.mono (Nat.le_trans hsz HB.out.size))
  have HV:=Lib.hid hv
  have HFF:=Lib.hid (fstep HF3.out (fstep HB.out hb))
  obtain ⟨bb,hbb⟩:∃ b,b = usOk P.net fm d:=⟨_,rfl⟩
  rw [← hbb] at HY ⊢
  clear hl hv hb hbb a0 a1 a2 d0 d1 d2 d3
  go_wp2
  go_ret2
  unfold OutRc
  rw [HY.out.1,HY.out.2]
  exact ⟨_,l,rfl,HL.out,HV.out,HFF.out⟩
set_option maxHeartbeats 4000000 in
set_option maxRecDepth 100000 in
theorem specRouteChoices_any (v:Value) (P:PlanV) (pf:Option Addr) (cf:Nat) (fm:List (Int × Int)) (d:Fib) (w:World) (h:PlIn w v P) (hfm:Prs w pf fm) (hfl:fm.length ≤ 1048576) :
  Calls Tryz.prog 20 #[v, .slice pf fm.length cf,fibV d] w (OutRc P fm d w):=by
 have HPL:=Lib.hid h
 have HPF:=Lib.hid hfm
 obtain ⟨q,m,c,p,k0,e1,r,i0,e0,rfl⟩:=h.shape
 obtain ⟨W3,hW3,hsz3,hf3,r1,r2⟩:=two_rows w [.slice q m c, .slice p k0 e1, .slice r i0 e0] [.int .i64 d.a, .int .i64 d.b, .int .i64 d.len, .int .i64 d.risk] 38 59
 obtain ⟨W4,hW4⟩:∃ W,W = W3.alloc (.cells #[.int .i64 d.a, .int .i64 d.b, .int .i64 d.len, .int .i64 d.risk] 59):=⟨_,rfl⟩
 have hf4:Fresh W3 W4:=by rw [hW4]; exact fnew (frefl _) _
 have hr4:RowAt W4 W3.heap.size 59 [.int .i64 d.a, .int .i64 d.b, .int .i64 d.len, .int .i64 d.risk]:=by rw [hW4]; exact RowAt.new _ _ _
 rw [hsz3] at hr4
 have HC1:=Lib.hid (l11Asked_any (.agg #[.slice q m c, .slice p k0 e1, .slice r i0 e0]) P pf cf fm (some ⟨w.heap.size + 1 + 1,0,none⟩) 1 [d] 1 W4 (HPL.out.keep (fstep hf3 hf4)) (HPF.out.keep (fstep hf3 hf4)) hfl hr4.cells (by simp))
 have HW4:=Lib.hid hW4
 have HF4:=Lib.hid hf4
 have HC3:Hid (planB P = true→usB P.net fm d = true→∀ W,Fresh W3 W→Calls Tryz.prog 65 #[.agg #[.slice q m c, .slice p k0 e1, .slice r i0 e0], .slice pf fm.length cf,fibV d, .int .i64 1] W (OutK P fm d 1 W)):=fun hp hu W hW=>l11Choices_any _ P pf cf fm d 1 W (HPL.out.keep (fstep hf3 hW)) (HPF.out.keep (fstep hf3 hW)) hfl hp hu
 have HF3:=Lib.hid hf3
 have HR1:=Lib.hid r1
 have HR2:=Lib.hid r2
 have HW3:=Lib.hid hW3
 have hsz:=hf3.size
 clear h hfm hf3 r1 r2 hW3 hf4 hr4 hW4
 cases hask:askS P fm [d] 1
 ·have HA:=Lib.hid hask
  rw [hask] at HC1
  clear hask
  go_enter Tryz.func20,Tryz.ntmps20
  go_wp2_with fail
  rw [← HW3.out]
  try rw [← HW4.out]
  refine (HC1.out).mono ?_
  rintro e w1 ⟨rfl,hb⟩
  have HB:=Lib.hid (fstep HF4.out hb)
  clear hb HC1
  obtain ⟨W8,hW8⟩:∃ W,W = w1.alloc (.cells #[] 94):=⟨_,rfl⟩
  have hf8:Fresh w1 W8:=by rw [hW8]; exact fnew (frefl _) _
  have hr8:RowAt W8 w1.heap.size 94 []:=by rw [hW8]; exact RowAt.new _ _ _
  have HN:=Lib.hid (rc_un HA.out)
  have HF8:=Lib.hid (fstep HB.out hf8)
  have HR8:=Lib.hid hr8
  have HW8:=Lib.hid hW8
  have hle:=HB.out.size
  clear hf8 hr8 hW8
  go_wp2
  try rw [← HW8.out]
  go_ret2
  unfold OutRc
  rw [HN.out.1,HN.out.2]
  first | exact ⟨_,[],rfl,Lso.nil _ _ (ownsRow_zero HR8.out (by omega)),rfl,fstep HF3.out HF8.out⟩ | (rw [← HW8.out]; exact ⟨_,[],rfl,Lso.nil _ _ (ownsRow_zero HR8.out (by omega)),rfl,fstep HF3.out HF8.out⟩)
 ·have HA:=Lib.hid hask
  rw [hask] at HC1
  clear hask
  go_enter Tryz.func20,Tryz.ntmps20
  go_wp2_with fail
  rw [← HW3.out]
  try rw [← HW4.out]
  refine (HC1.out).mono ?_
  rintro e w1 ⟨rfl,hb⟩
  have HB:=Lib.hid (fstep HF4.out hb)
  clear hb HC1
  obtain ⟨hp1,hu1,hi1,_⟩:=askS_us HA.out
  have HC9:=Lib.hid (HC3.out hp1 (hu1 d (by simp)) w1 HB.out)
  have HY:=Lib.hid (rc_yes (fm:=fm) (d:=d) hp1)
  clear hp1 hu1 hi1 HC3
  have a0:=(HR1.out.keep HB.out).cell (i:=0) rfl
  have a1:=(HR1.out.keep HB.out).cell (i:=1) rfl
  have a2:=(HR1.out.keep HB.out).cell (i:=2) rfl
  have d0:=(HR2.out.keep HB.out).cell (i:=0) rfl
  have d1:=(HR2.out.keep HB.out).cell (i:=1) rfl
  have d2:=(HR2.out.keep HB.out).cell (i:=2) rfl
  have d3:=(HR2.out.keep HB.out).cell (i:=3) rfl
  go_wp2_with fail
  refine (HC9.out).mono ?_
  rintro e w9 ⟨V,l,rfl,hl,hv,hb⟩
  have HL:=Lib.hid (hl.mono (Nat.le_trans hsz HB.out.size))
  have HV:=Lib.hid hv
  have HFF:=Lib.hid (fstep HF3.out (fstep HB.out hb))
  obtain ⟨bb,hbb⟩:∃ b,b = usOk P.net fm d:=⟨_,rfl⟩
  rw [← hbb] at HY ⊢
  clear hl hv hb hbb a0 a1 a2 d0 d1 d2 d3
  go_wp2
  go_ret2
  unfold OutRc
  rw [HY.out.1,HY.out.2]
  exact ⟨_,l,rfl,HL.out,HV.out,HFF.out⟩
end Go.Proofs.YteckjlkhopkogaaGreat
