/- The walk of FnExactServeDemand. -/
import Derived.Test.YteckjlkhopkogaaGreatKLs
import Derived.Test.YteckjlkhopkogaaGreatPm3
import Derived.Test.YteckjlkhopkogaaGreatMl
import Derived.Test.YteckjlkhopkogaaGreatU1
import Derived.Test.YteckjlkhopkogaaGreatKFm
import Derived.Test.YteckjlkhopkogaaGreatKDm
import Derived.Test.YteckjlkhopkogaaGreatY3
import Derived.Deep.RegionHeld3
import Derived.Deep.DeepCutAuto
namespace Go.Proofs.YteckjlkhopkogaaGreat
open Go.RowKit Go.PlainAid
set_option maxHeartbeats 4000000 in
set_option maxRecDepth 100000 in
theorem law_ServeDemand (v0:Value) (x0:PlanV) (v1:Value) (x1:List (Int × Int)) (g2a h2a l2a j2a:Int) (x3:Int) (w:World) (h0:PlRaw w v0 x0) (h1:FmRaw w v1 x1) (bx3:-9223372036854775808 ≤ x3∧x3 ≤ 9223372036854775807) :
  Calls Tryz.prog 5 #[v0,v1, .agg #[.int .i64 g2a, .int .i64 h2a, .int .i64 l2a, .int .i64 j2a], .int .i64 x3] w fun e w'=>e = .returned (.bool true)∧Fresh w w':=by
 obtain ⟨bl3,bh3⟩:=bx3
 obtain ⟨q0a,m0a,c0a,p0a,k0a,d0a,r0a,i0a,e0a,hv0⟩:=h0.shape
 subst hv0
 have HI0:=Lib.hid h0
 clear h0
 have HI1:=Lib.hid h1
 clear h1
 obtain ⟨r0,hr0⟩:∃ r0,r0 = (sdF x0 x1 ⟨g2a,h2a,l2a,j2a⟩ x3).1:=⟨_,rfl⟩
 have HR0:=Lib.hid hr0
 clear hr0
 obtain ⟨r1,hr1⟩:∃ r1,r1 = (sdF x0 x1 ⟨g2a,h2a,l2a,j2a⟩ x3).2.1:=⟨_,rfl⟩
 have HR1:=Lib.hid hr1
 clear hr1
 obtain ⟨r2,hr2⟩:∃ r2,r2 = (sdF x0 x1 ⟨g2a,h2a,l2a,j2a⟩ x3).2.2:=⟨_,rfl⟩
 have HR2:=Lib.hid hr2
 clear hr2
 obtain ⟨B0,hB0⟩:∃ B,B = w.alloc (.cells #[.slice q0a m0a c0a, .slice p0a k0a d0a, .slice r0a i0a e0a] 28):=⟨_,rfl⟩
 have hz0:B0.heap.size = w.heap.size + 1:=by rw [hB0]; simp
 have hf0:Fresh w B0:=by rw [hB0]; exact fnew (frefl _) _
 have hrow0:RowAt B0 w.heap.size 28 [.slice q0a m0a c0a, .slice p0a k0a d0a, .slice r0a i0a e0a]:=by rw [hB0]; exact RowAt.new _ _ _
 obtain ⟨B2,hB2⟩:∃ B,B = B0.alloc (.cells #[.int .i64 g2a, .int .i64 h2a, .int .i64 l2a, .int .i64 j2a] 51):=⟨_,rfl⟩
 have hz2:B2.heap.size = B0.heap.size + 1:=by rw [hB2]; simp
 have hf2:Fresh B0 B2:=by rw [hB2]; exact fnew (frefl _) _
 have hrow2:RowAt B2 B0.heap.size 51 [.int .i64 g2a, .int .i64 h2a, .int .i64 l2a, .int .i64 j2a]:=by rw [hB2]; exact RowAt.new _ _ _
 replace hrow0:=hrow0.keep hf2
 have HF:=Lib.hid (fstep (fstep (frefl w) hf0) hf2)
 have a0_0:=hrow0.cell (i:=0) rfl
 have a0_1:=hrow0.cell (i:=1) rfl
 have a0_2:=hrow0.cell (i:=2) rfl
 have a2_0:=hrow2.cell (i:=0) rfl
 have a2_1:=hrow2.cell (i:=1) rfl
 have a2_2:=hrow2.cell (i:=2) rfl
 have a2_3:=hrow2.cell (i:=3) rfl
 rw [hz0] at a2_0 a2_1 a2_2 a2_3
 have HB:=Lib.hid (And.intro hB0 hB2)
 clear hB0 hz0 hf0 hrow0 hB2 hz2 hf2 hrow2
 go_enter Tryz.func5,Tryz.ntmps5
 go_wp2_with fail
 rw [← HB.out.1,← HB.out.2]
 clear HB
 refine (szPlan_k _ x0 1048576 _ (PlRaw.keep HI0.out HF.out) (by omega) (by omega)).mono ?_
 rintro e w1 ⟨l0,rfl,l00,l01,hsm,hb⟩
 have HS0:=Lib.hid hsm
 clear hsm
 replace a0_0:=fkeep hb a0_0
 replace a0_1:=fkeep hb a0_1
 replace a0_2:=fkeep hb a0_2
 replace a2_0:=fkeep hb a2_0
 replace a2_1:=fkeep hb a2_1
 replace a2_2:=fkeep hb a2_2
 replace a2_3:=fkeep hb a2_3
 have HF:=Lib.hid (fstep HF.out hb)
 clear hb
 by_cases hneg0:l0 < 0
 ·go_wp2
  go_ret
  exact ⟨rfl,HF.out⟩
 go_wp2_with fail
 refine (szFm_k _ x1 l0 _ (FmRaw.keep HI1.out HF.out) (by omega) (by omega)).mono ?_
 rintro e w2 ⟨l1,rfl,l10,l11,hsm,hb⟩
 have HS1:=Lib.hid hsm
 clear hsm
 replace a0_0:=fkeep hb a0_0
 replace a0_1:=fkeep hb a0_1
 replace a0_2:=fkeep hb a0_2
 replace a2_0:=fkeep hb a2_0
 replace a2_1:=fkeep hb a2_1
 replace a2_2:=fkeep hb a2_2
 replace a2_3:=fkeep hb a2_3
 have HF:=Lib.hid (fstep HF.out hb)
 clear hb
 by_cases hneg1:l1 < 0
 ·go_wp2
  go_ret
  exact ⟨rfl,HF.out⟩
 replace HI0:=Lib.hid (PlRaw.small HI0.out (HS0.out (by omega)))
 clear HS0
 replace HI1:=Lib.hid (FmRaw.small HI1.out (HS1.out (by omega)))
 clear HS1
 have hlen:=sdF_small x0 x1 ⟨g2a,h2a,l2a,j2a⟩ x3 HI0.out.isSmall
 rw [← HR0.out] at hlen
 have HSM:=Lib.hid hlen
 clear hlen
 have HSZ0:=Lib.hid HF.out.size
 have HSZ1:=Lib.hid (World.block_lt_of_cell? _ _ a2_0)
 go_upto_region 8 with fail
 go_cut [10,11,12] (fun z10 z11 z12 wx=>∃ (gb:Nat) (qW:Option Addr) (mW:Nat) (cW:Nat) (fW:Option Addr) (kW:Nat) (dW:Nat) (tW:Option Addr) (iW:Nat) (eW:Nat),z10 = .pointer (some ⟨gb,0,none⟩)∧z11 = .int .i64 r1∧z12 = .bool r2∧RowAt wx gb 38 [.slice qW mW cW, .slice fW kW dW, .slice tW iW eW]∧PlHeld wx (0) wx.heap.size (.agg #[.slice qW mW cW, .slice fW kW dW, .slice tW iW eW]) r0∧Fresh w2 wx∧w2.heap.size ≤ gb)
 case first =>
  refine hd_start (n:=15) (S:=fun wz=>wz.cell? ⟨w.heap.size,0,none⟩ = some (.slice q0a m0a c0a)∧wz.cell? ⟨w.heap.size,1,none⟩ = some (.slice p0a k0a d0a)∧wz.cell? ⟨w.heap.size,2,none⟩ = some (.slice r0a i0a e0a)∧wz.cell? ⟨w.heap.size + 1,0,none⟩ = some (.int .i64 g2a)∧wz.cell? ⟨w.heap.size + 1,1,none⟩ = some (.int .i64 h2a)∧wz.cell? ⟨w.heap.size + 1,2,none⟩ = some (.int .i64 l2a)∧wz.cell? ⟨w.heap.size + 1,3,none⟩ = some (.int .i64 j2a)) (by kernel_rfl) (by kernel_rfl) ⟨fkeep (fdrew (frefl _)) a0_0,fkeep (fdrew (frefl _)) a0_1,fkeep (fdrew (frefl _)) a0_2,fkeep (fdrew (frefl _)) a2_0,fkeep (fdrew (frefl _)) a2_1,fkeep (fdrew (frefl _)) a2_2,fkeep (fdrew (frefl _)) a2_3⟩ (fun hHeld=>?_)
  obtain ⟨Wz,hWz⟩:∃ W,W = w2.drew:=⟨_,rfl⟩
  rw [← hWz] at hHeld ⊢
  have f0:Fresh w2 Wz:=by rw [hWz]; exact fdrew (frefl _)
  clear hWz
  refine hd_tk (i:=0) (v:=?_) rfl ?_ ?_
  rotate_left
  ·(intro w hSw; (try dsimp only at hSw); go_simp; first | done | with_reducible rfl)
  try simp only [PU]
  refine hd_tk (i:=2) (v:=?_) rfl ?_ ?_
  rotate_left
  ·(intro w hSw; (try dsimp only at hSw); go_simp; first | done | with_reducible rfl)
  try simp only [PU]
  refine hd_tk (i:=4) (v:=?_) rfl ?_ ?_
  rotate_left
  ·(intro w hSw; (try dsimp only at hSw); go_simp; first | done | with_reducible rfl)
  try simp only [PU]
  refine hd_tk (i:=6) (v:=?_) rfl ?_ ?_
  rotate_left
  ·(intro w hSw; (try dsimp only at hSw); go_simp; first | done | with_reducible rfl)
  try simp only [PU]
  refine hd_ready (rs:=[1,12]) (by kernel_rfl) (by simp) ?_
  refine hd_cons (i:=1) rfl (by kernel_rfl) (fun K hK=>?_) ?_
  ·skip
   go_simp
   go_at_call 21
   refine (toPlan_k _ x0 _ (HI0.out.keep (fstep HF.out f0))).mono ?_
   rintro e wk1 ⟨y0,rfl,hy0,hb0⟩
   have fk1:=fstep f0 hb0
   go_wp2_with fail
   refine hK.out _ _ ?_ (fun hHeld=>?_)
   ·exact ⟨fkeep fk1 a0_0,fkeep fk1 a0_1,fkeep fk1 a0_2,fkeep fk1 a2_0,fkeep fk1 a2_1,fkeep fk1 a2_2,fkeep fk1 a2_3⟩
   clear hK K
   try simp only [PU]
   refine hd_ready (rs:=[3,12]) (by kernel_rfl) (by simp) ?_
   refine hd_cons (i:=3) rfl (by kernel_rfl) (fun K hK=>?_) ?_
   ·skip
    go_simp
    go_at_call 22
    refine (toFm_k _ x1 _ (HI1.out.keep (fstep HF.out fk1))).mono ?_
    rintro e wk2 ⟨y1,rfl,hy1,hb1⟩
    have fk2:=fstep fk1 hb1
    go_wp2_with fail
    refine hK.out _ _ ?_ (fun hHeld=>?_)
    ·exact ⟨fkeep fk2 a0_0,fkeep fk2 a0_1,fkeep fk2 a0_2,fkeep fk2 a2_0,fkeep fk2 a2_1,fkeep fk2 a2_2,fkeep fk2 a2_3⟩
    clear hK K
    try simp only [PU]
    refine hd_ready (rs:=[5,12]) (by kernel_rfl) (by simp) ?_
    refine hd_cons (i:=5) rfl (by kernel_rfl) (fun K hK=>?_) ?_
    ·skip
     go_simp
     go_at_call 23
     refine (toDemand_any g2a h2a l2a j2a _).mono ?_
     rintro e wk3 ⟨rfl,hb2⟩
     have fk3:=fstep fk2 hb2
     go_wp2_with fail
     refine hK.out _ _ ?_ (fun hHeld=>?_)
     ·exact ⟨fkeep fk3 a0_0,fkeep fk3 a0_1,fkeep fk3 a0_2,fkeep fk3 a2_0,fkeep fk3 a2_1,fkeep fk3 a2_2,fkeep fk3 a2_3⟩
     clear hK K
     try simp only [PU]
     refine hd_ready (rs:=[7,12]) (by kernel_rfl) (by simp) ?_
     refine hd_cons (i:=7) rfl (by kernel_rfl) (fun K hK=>?_) ?_
     ·skip
      go_simp
      go_at_call 30
      have hcc:=specServeDemand_l _ x0 _ x1 ⟨g2a,h2a,l2a,j2a⟩ x3 _ ((hy0.keep hb1).keep hb2) (hy1.keep hb2)
      rw [← HR0.out,← HR1.out,← HR2.out] at hcc
      refine hcc.mono ?_
      clear hcc
      rintro e wk4 ⟨vW,rfl,how,hbr⟩
      obtain ⟨qW,mW,cW,fW,kW,dW,tW,iW,eW,hvv⟩:=how.shape
      subst hvv
      have fk4:=fstep fk3 hbr
      go_wp2_with fail
      refine hK.out _ _ ?_ (fun hHeld=>?_)
      ·exact ⟨fkeep fk4 a0_0,fkeep fk4 a0_1,fkeep fk4 a0_2,fkeep fk4 a2_0,fkeep fk4 a2_1,fkeep fk4 a2_2,fkeep fk4 a2_3⟩
      clear hK K
      try simp only [PU]
      refine hd_tk (i:=8) (v:=?_) rfl ?_ ?_
      rotate_left
      ·(intro w hSw; (try dsimp only at hSw); go_simp; first | done | with_reducible rfl)
      try simp only [PU]
      refine hd_tk (i:=9) (v:=?_) rfl ?_ ?_
      rotate_left
      ·(intro w hSw; (try dsimp only at hSw); go_simp; first | done | with_reducible rfl)
      try simp only [PU]
      refine hd_tk (i:=10) (v:=?_) rfl ?_ ?_
      rotate_left
      ·(intro w hSw; (try dsimp only at hSw); go_simp; first | done | with_reducible rfl)
      try simp only [PU]
      refine hd_tk (i:=11) (v:=?_) rfl ?_ ?_
      rotate_left
      ·(intro w hSw; (try dsimp only at hSw); go_simp; first | done | with_reducible rfl)
      try simp only [PU]
      refine hd_one (i:=12) rfl (by kernel_rfl) (by kernel_rfl) (fun K hK=>?_)
      go_simp
      obtain ⟨wk5,hwa⟩:∃ W,W = wk4.alloc (.cells #[.slice none 0 0, .slice none 0 0, .slice none 0 0] 38):=⟨_,rfl⟩
      rw [← hwa]
      have hba:Fresh wk4 wk5:=by rw [hwa]; exact fnew (frefl _) _
      have ra:RowAt wk5 wk4.heap.size 38 [.slice none 0 0, .slice none 0 0, .slice none 0 0]:=by rw [hwa]; exact RowAt.new _ _ _
      have hga:w2.heap.size ≤ wk4.heap.size:=fk4.size
      have fk5:=fstep fk4 hba
      clear hwa
      refine hK.out _ _ ?_ (fun hHeld=>?_)
      ·exact ⟨fkeep fk5 a0_0,fkeep fk5 a0_1,fkeep fk5 a0_2,fkeep fk5 a2_0,fkeep fk5 a2_1,fkeep fk5 a2_2,fkeep fk5 a2_3⟩
      clear hK K
      try simp only [PU]
      have rb:=ra
      have z0:=rb.cell (i:=0) rfl
      have z1:=rb.cell (i:=1) rfl
      have z2:=rb.cell (i:=2) rfl
      have u0:=rb.frozen 0
      have u1:=rb.frozen 1
      have u2:=rb.frozen 2
      have fs:=(fset (fset (fset fk5 hga (o:=0) (.slice qW mW cW)) hga (o:=1) (.slice fW kW dW)) hga (o:=2) (.slice tW iW eW))
      refine hd_one (i:=13) rfl (by kernel_rfl) (by kernel_rfl) (fun K hK=>?_)
      (go_simp)
      refine hK.out _ _ ?_ (fun hHeld=>?_)
      ·exact ⟨fkeep fs a0_0,fkeep fs a0_1,fkeep fs a0_2,fkeep fs a2_0,fkeep fs a2_1,fkeep fs a2_2,fkeep fs a2_3⟩
      clear hK K
      try simp only [PU]
      refine hd_tk (i:=14) (v:=?_) rfl ?_ ?_
      rotate_left
      ·(intro w hSw; (try dsimp only at hSw); go_simp; first | done | with_reducible rfl)
      try simp only [PU]
      refine hd_done (by kernel_rfl) ?_
      clear hHeld
      simp only [List.drop_succ_cons,List.drop_zero]
      go_wp2_with fail
      go_meet
      have hrow:=(((rb.set 0 (.slice qW mW cW)).set 1 (.slice fW kW dW)).set 2 (.slice tW iW eW))
      exact ⟨_,_,_,_,_,_,_,_,_,_,rfl,rfl,rfl,hrow,((how.keep hba).box rb).held.wide (Nat.zero_le _) (Nat.le_refl _),fs,hga⟩
     ·refine hd_cons (i:=12) rfl (by kernel_rfl) (fun K hK=>?_) hd_nil
      go_simp
      obtain ⟨wk6,hwa⟩:∃ W,W = wk3.alloc (.cells #[.slice none 0 0, .slice none 0 0, .slice none 0 0] 38):=⟨_,rfl⟩
      rw [← hwa]
      have hba:Fresh wk3 wk6:=by rw [hwa]; exact fnew (frefl _) _
      have ra:RowAt wk6 wk3.heap.size 38 [.slice none 0 0, .slice none 0 0, .slice none 0 0]:=by rw [hwa]; exact RowAt.new _ _ _
      have hga:w2.heap.size ≤ wk3.heap.size:=fk3.size
      have fk6:=fstep fk3 hba
      clear hwa
      refine hK.out _ _ ?_ (fun hHeld=>?_)
      ·exact ⟨fkeep fk6 a0_0,fkeep fk6 a0_1,fkeep fk6 a0_2,fkeep fk6 a2_0,fkeep fk6 a2_1,fkeep fk6 a2_2,fkeep fk6 a2_3⟩
      clear hK K
      try simp only [PU]
      refine hd_one (i:=7) rfl (by kernel_rfl) (by kernel_rfl) (fun K hK=>?_)
      go_simp
      go_at_call 30
      have hcc:=specServeDemand_l _ x0 _ x1 ⟨g2a,h2a,l2a,j2a⟩ x3 _ (((hy0.keep hb1).keep hb2).keep hba) ((hy1.keep hb2).keep hba)
      rw [← HR0.out,← HR1.out,← HR2.out] at hcc
      refine hcc.mono ?_
      clear hcc
      rintro e wk7 ⟨vW,rfl,how,hbr⟩
      obtain ⟨qW,mW,cW,fW,kW,dW,tW,iW,eW,hvv⟩:=how.shape
      subst hvv
      have fk7:=fstep fk6 hbr
      go_wp2_with fail
      refine hK.out _ _ ?_ (fun hHeld=>?_)
      ·exact ⟨fkeep fk7 a0_0,fkeep fk7 a0_1,fkeep fk7 a0_2,fkeep fk7 a2_0,fkeep fk7 a2_1,fkeep fk7 a2_2,fkeep fk7 a2_3⟩
      clear hK K
      try simp only [PU]
      refine hd_tk (i:=8) (v:=?_) rfl ?_ ?_
      rotate_left
      ·(intro w hSw; (try dsimp only at hSw); go_simp; first | done | with_reducible rfl)
      try simp only [PU]
      refine hd_tk (i:=9) (v:=?_) rfl ?_ ?_
      rotate_left
      ·(intro w hSw; (try dsimp only at hSw); go_simp; first | done | with_reducible rfl)
      try simp only [PU]
      refine hd_tk (i:=10) (v:=?_) rfl ?_ ?_
      rotate_left
      ·(intro w hSw; (try dsimp only at hSw); go_simp; first | done | with_reducible rfl)
      try simp only [PU]
      refine hd_tk (i:=11) (v:=?_) rfl ?_ ?_
      rotate_left
      ·(intro w hSw; (try dsimp only at hSw); go_simp; first | done | with_reducible rfl)
      try simp only [PU]
      have rb:=(ra.keep hbr)
      have z0:=rb.cell (i:=0) rfl
      have z1:=rb.cell (i:=1) rfl
      have z2:=rb.cell (i:=2) rfl
      have u0:=rb.frozen 0
      have u1:=rb.frozen 1
      have u2:=rb.frozen 2
      have fs:=(fset (fset (fset fk7 hga (o:=0) (.slice qW mW cW)) hga (o:=1) (.slice fW kW dW)) hga (o:=2) (.slice tW iW eW))
      refine hd_one (i:=13) rfl (by kernel_rfl) (by kernel_rfl) (fun K hK=>?_)
      (go_simp)
      refine hK.out _ _ ?_ (fun hHeld=>?_)
      ·exact ⟨fkeep fs a0_0,fkeep fs a0_1,fkeep fs a0_2,fkeep fs a2_0,fkeep fs a2_1,fkeep fs a2_2,fkeep fs a2_3⟩
      clear hK K
      try simp only [PU]
      refine hd_tk (i:=14) (v:=?_) rfl ?_ ?_
      rotate_left
      ·(intro w hSw; (try dsimp only at hSw); go_simp; first | done | with_reducible rfl)
      try simp only [PU]
      refine hd_done (by kernel_rfl) ?_
      clear hHeld
      simp only [List.drop_succ_cons,List.drop_zero]
      go_wp2_with fail
      go_meet
      have hrow:=(((rb.set 0 (.slice qW mW cW)).set 1 (.slice fW kW dW)).set 2 (.slice tW iW eW))
      exact ⟨_,_,_,_,_,_,_,_,_,_,rfl,rfl,rfl,hrow,(how.box rb).held.wide (Nat.zero_le _) (Nat.le_refl _),fs,hga⟩
    ·refine hd_cons (i:=12) rfl (by kernel_rfl) (fun K hK=>?_) hd_nil
     go_simp
     obtain ⟨wk8,hwa⟩:∃ W,W = wk2.alloc (.cells #[.slice none 0 0, .slice none 0 0, .slice none 0 0] 38):=⟨_,rfl⟩
     rw [← hwa]
     have hba:Fresh wk2 wk8:=by rw [hwa]; exact fnew (frefl _) _
     have ra:RowAt wk8 wk2.heap.size 38 [.slice none 0 0, .slice none 0 0, .slice none 0 0]:=by rw [hwa]; exact RowAt.new _ _ _
     have hga:w2.heap.size ≤ wk2.heap.size:=fk2.size
     have fk8:=fstep fk2 hba
     clear hwa
     refine hK.out _ _ ?_ (fun hHeld=>?_)
     ·exact ⟨fkeep fk8 a0_0,fkeep fk8 a0_1,fkeep fk8 a0_2,fkeep fk8 a2_0,fkeep fk8 a2_1,fkeep fk8 a2_2,fkeep fk8 a2_3⟩
     clear hK K
     try simp only [PU]
     refine hd_one (i:=5) rfl (by kernel_rfl) (by kernel_rfl) (fun K hK=>?_)
     go_simp
     go_at_call 23
     refine (toDemand_any g2a h2a l2a j2a _).mono ?_
     rintro e wk9 ⟨rfl,hb2⟩
     have fk9:=fstep fk8 hb2
     go_wp2_with fail
     refine hK.out _ _ ?_ (fun hHeld=>?_)
     ·exact ⟨fkeep fk9 a0_0,fkeep fk9 a0_1,fkeep fk9 a0_2,fkeep fk9 a2_0,fkeep fk9 a2_1,fkeep fk9 a2_2,fkeep fk9 a2_3⟩
     clear hK K
     try simp only [PU]
     refine hd_one (i:=7) rfl (by kernel_rfl) (by kernel_rfl) (fun K hK=>?_)
     go_simp
     go_at_call 30
     have hcc:=specServeDemand_l _ x0 _ x1 ⟨g2a,h2a,l2a,j2a⟩ x3 _ (((hy0.keep hb1).keep hba).keep hb2) ((hy1.keep hba).keep hb2)
     rw [← HR0.out,← HR1.out,← HR2.out] at hcc
     refine hcc.mono ?_
     clear hcc
     rintro e wk10 ⟨vW,rfl,how,hbr⟩
     obtain ⟨qW,mW,cW,fW,kW,dW,tW,iW,eW,hvv⟩:=how.shape
     subst hvv
     have fk10:=fstep fk9 hbr
     go_wp2_with fail
     refine hK.out _ _ ?_ (fun hHeld=>?_)
     ·exact ⟨fkeep fk10 a0_0,fkeep fk10 a0_1,fkeep fk10 a0_2,fkeep fk10 a2_0,fkeep fk10 a2_1,fkeep fk10 a2_2,fkeep fk10 a2_3⟩
     clear hK K
     try simp only [PU]
     refine hd_tk (i:=8) (v:=?_) rfl ?_ ?_
     rotate_left
     ·(intro w hSw; (try dsimp only at hSw); go_simp; first | done | with_reducible rfl)
     try simp only [PU]
     refine hd_tk (i:=9) (v:=?_) rfl ?_ ?_
     rotate_left
     ·(intro w hSw; (try dsimp only at hSw); go_simp; first | done | with_reducible rfl)
     try simp only [PU]
     refine hd_tk (i:=10) (v:=?_) rfl ?_ ?_
     rotate_left
     ·(intro w hSw; (try dsimp only at hSw); go_simp; first | done | with_reducible rfl)
     try simp only [PU]
     refine hd_tk (i:=11) (v:=?_) rfl ?_ ?_
     rotate_left
     ·(intro w hSw; (try dsimp only at hSw); go_simp; first | done | with_reducible rfl)
     try simp only [PU]
     have rb:=((ra.keep hb2).keep hbr)
     have z0:=rb.cell (i:=0) rfl
     have z1:=rb.cell (i:=1) rfl
     have z2:=rb.cell (i:=2) rfl
     have u0:=rb.frozen 0
     have u1:=rb.frozen 1
     have u2:=rb.frozen 2
     have fs:=(fset (fset (fset fk10 hga (o:=0) (.slice qW mW cW)) hga (o:=1) (.slice fW kW dW)) hga (o:=2) (.slice tW iW eW))
     refine hd_one (i:=13) rfl (by kernel_rfl) (by kernel_rfl) (fun K hK=>?_)
     (go_simp)
     refine hK.out _ _ ?_ (fun hHeld=>?_)
     ·exact ⟨fkeep fs a0_0,fkeep fs a0_1,fkeep fs a0_2,fkeep fs a2_0,fkeep fs a2_1,fkeep fs a2_2,fkeep fs a2_3⟩
     clear hK K
     try simp only [PU]
     refine hd_tk (i:=14) (v:=?_) rfl ?_ ?_
     rotate_left
     ·(intro w hSw; (try dsimp only at hSw); go_simp; first | done | with_reducible rfl)
     try simp only [PU]
     refine hd_done (by kernel_rfl) ?_
     clear hHeld
     simp only [List.drop_succ_cons,List.drop_zero]
     go_wp2_with fail
     go_meet
     have hrow:=(((rb.set 0 (.slice qW mW cW)).set 1 (.slice fW kW dW)).set 2 (.slice tW iW eW))
     exact ⟨_,_,_,_,_,_,_,_,_,_,rfl,rfl,rfl,hrow,(how.box rb).held.wide (Nat.zero_le _) (Nat.le_refl _),fs,hga⟩
   ·refine hd_cons (i:=12) rfl (by kernel_rfl) (fun K hK=>?_) hd_nil
    go_simp
    obtain ⟨wk11,hwa⟩:∃ W,W = wk1.alloc (.cells #[.slice none 0 0, .slice none 0 0, .slice none 0 0] 38):=⟨_,rfl⟩
    rw [← hwa]
    have hba:Fresh wk1 wk11:=by rw [hwa]; exact fnew (frefl _) _
    have ra:RowAt wk11 wk1.heap.size 38 [.slice none 0 0, .slice none 0 0, .slice none 0 0]:=by rw [hwa]; exact RowAt.new _ _ _
    have hga:w2.heap.size ≤ wk1.heap.size:=fk1.size
    have fk11:=fstep fk1 hba
    clear hwa
    refine hK.out _ _ ?_ (fun hHeld=>?_)
    ·exact ⟨fkeep fk11 a0_0,fkeep fk11 a0_1,fkeep fk11 a0_2,fkeep fk11 a2_0,fkeep fk11 a2_1,fkeep fk11 a2_2,fkeep fk11 a2_3⟩
    clear hK K
    try simp only [PU]
    refine hd_one (i:=3) rfl (by kernel_rfl) (by kernel_rfl) (fun K hK=>?_)
    go_simp
    go_at_call 22
    refine (toFm_k _ x1 _ (HI1.out.keep (fstep HF.out fk11))).mono ?_
    rintro e wk12 ⟨y1,rfl,hy1,hb1⟩
    have fk12:=fstep fk11 hb1
    go_wp2_with fail
    refine hK.out _ _ ?_ (fun hHeld=>?_)
    ·exact ⟨fkeep fk12 a0_0,fkeep fk12 a0_1,fkeep fk12 a0_2,fkeep fk12 a2_0,fkeep fk12 a2_1,fkeep fk12 a2_2,fkeep fk12 a2_3⟩
    clear hK K
    try simp only [PU]
    refine hd_one (i:=5) rfl (by kernel_rfl) (by kernel_rfl) (fun K hK=>?_)
    go_simp
    go_at_call 23
    refine (toDemand_any g2a h2a l2a j2a _).mono ?_
    rintro e wk13 ⟨rfl,hb2⟩
    have fk13:=fstep fk12 hb2
    go_wp2_with fail
    refine hK.out _ _ ?_ (fun hHeld=>?_)
    ·exact ⟨fkeep fk13 a0_0,fkeep fk13 a0_1,fkeep fk13 a0_2,fkeep fk13 a2_0,fkeep fk13 a2_1,fkeep fk13 a2_2,fkeep fk13 a2_3⟩
    clear hK K
    try simp only [PU]
    refine hd_one (i:=7) rfl (by kernel_rfl) (by kernel_rfl) (fun K hK=>?_)
    go_simp
    go_at_call 30
    have hcc:=specServeDemand_l _ x0 _ x1 ⟨g2a,h2a,l2a,j2a⟩ x3 _ (((hy0.keep hba).keep hb1).keep hb2) (hy1.keep hb2)
    rw [← HR0.out,← HR1.out,← HR2.out] at hcc
    refine hcc.mono ?_
    clear hcc
    rintro e wk14 ⟨vW,rfl,how,hbr⟩
    obtain ⟨qW,mW,cW,fW,kW,dW,tW,iW,eW,hvv⟩:=how.shape
    subst hvv
    have fk14:=fstep fk13 hbr
    go_wp2_with fail
    refine hK.out _ _ ?_ (fun hHeld=>?_)
    ·exact ⟨fkeep fk14 a0_0,fkeep fk14 a0_1,fkeep fk14 a0_2,fkeep fk14 a2_0,fkeep fk14 a2_1,fkeep fk14 a2_2,fkeep fk14 a2_3⟩
    clear hK K
    try simp only [PU]
    refine hd_tk (i:=8) (v:=?_) rfl ?_ ?_
    rotate_left
    ·(intro w hSw; (try dsimp only at hSw); go_simp; first | done | with_reducible rfl)
    try simp only [PU]
    refine hd_tk (i:=9) (v:=?_) rfl ?_ ?_
    rotate_left
    ·(intro w hSw; (try dsimp only at hSw); go_simp; first | done | with_reducible rfl)
    try simp only [PU]
    refine hd_tk (i:=10) (v:=?_) rfl ?_ ?_
    rotate_left
    ·(intro w hSw; (try dsimp only at hSw); go_simp; first | done | with_reducible rfl)
    try simp only [PU]
    refine hd_tk (i:=11) (v:=?_) rfl ?_ ?_
    rotate_left
    ·(intro w hSw; (try dsimp only at hSw); go_simp; first | done | with_reducible rfl)
    try simp only [PU]
    have rb:=(((ra.keep hb1).keep hb2).keep hbr)
    have z0:=rb.cell (i:=0) rfl
    have z1:=rb.cell (i:=1) rfl
    have z2:=rb.cell (i:=2) rfl
    have u0:=rb.frozen 0
    have u1:=rb.frozen 1
    have u2:=rb.frozen 2
    have fs:=(fset (fset (fset fk14 hga (o:=0) (.slice qW mW cW)) hga (o:=1) (.slice fW kW dW)) hga (o:=2) (.slice tW iW eW))
    refine hd_one (i:=13) rfl (by kernel_rfl) (by kernel_rfl) (fun K hK=>?_)
    (go_simp)
    refine hK.out _ _ ?_ (fun hHeld=>?_)
    ·exact ⟨fkeep fs a0_0,fkeep fs a0_1,fkeep fs a0_2,fkeep fs a2_0,fkeep fs a2_1,fkeep fs a2_2,fkeep fs a2_3⟩
    clear hK K
    try simp only [PU]
    refine hd_tk (i:=14) (v:=?_) rfl ?_ ?_
    rotate_left
    ·(intro w hSw; (try dsimp only at hSw); go_simp; first | done | with_reducible rfl)
    try simp only [PU]
    refine hd_done (by kernel_rfl) ?_
    clear hHeld
    simp only [List.drop_succ_cons,List.drop_zero]
    go_wp2_with fail
    go_meet
    have hrow:=(((rb.set 0 (.slice qW mW cW)).set 1 (.slice fW kW dW)).set 2 (.slice tW iW eW))
    exact ⟨_,_,_,_,_,_,_,_,_,_,rfl,rfl,rfl,hrow,(how.box rb).held.wide (Nat.zero_le _) (Nat.le_refl _),fs,hga⟩
  ·refine hd_cons (i:=12) rfl (by kernel_rfl) (fun K hK=>?_) hd_nil
   go_simp
   obtain ⟨wk15,hwa⟩:∃ W,W = Wz.alloc (.cells #[.slice none 0 0, .slice none 0 0, .slice none 0 0] 38):=⟨_,rfl⟩
   rw [← hwa]
   have hba:Fresh Wz wk15:=by rw [hwa]; exact fnew (frefl _) _
   have ra:RowAt wk15 Wz.heap.size 38 [.slice none 0 0, .slice none 0 0, .slice none 0 0]:=by rw [hwa]; exact RowAt.new _ _ _
   have hga:w2.heap.size ≤ Wz.heap.size:=f0.size
   have fk15:=fstep f0 hba
   clear hwa
   refine hK.out _ _ ?_ (fun hHeld=>?_)
   ·exact ⟨fkeep fk15 a0_0,fkeep fk15 a0_1,fkeep fk15 a0_2,fkeep fk15 a2_0,fkeep fk15 a2_1,fkeep fk15 a2_2,fkeep fk15 a2_3⟩
   clear hK K
   try simp only [PU]
   refine hd_one (i:=1) rfl (by kernel_rfl) (by kernel_rfl) (fun K hK=>?_)
   go_simp
   go_at_call 21
   refine (toPlan_k _ x0 _ (HI0.out.keep (fstep HF.out fk15))).mono ?_
   rintro e wk16 ⟨y0,rfl,hy0,hb0⟩
   have fk16:=fstep fk15 hb0
   go_wp2_with fail
   refine hK.out _ _ ?_ (fun hHeld=>?_)
   ·exact ⟨fkeep fk16 a0_0,fkeep fk16 a0_1,fkeep fk16 a0_2,fkeep fk16 a2_0,fkeep fk16 a2_1,fkeep fk16 a2_2,fkeep fk16 a2_3⟩
   clear hK K
   try simp only [PU]
   refine hd_one (i:=3) rfl (by kernel_rfl) (by kernel_rfl) (fun K hK=>?_)
   go_simp
   go_at_call 22
   refine (toFm_k _ x1 _ (HI1.out.keep (fstep HF.out fk16))).mono ?_
   rintro e wk17 ⟨y1,rfl,hy1,hb1⟩
   have fk17:=fstep fk16 hb1
   go_wp2_with fail
   refine hK.out _ _ ?_ (fun hHeld=>?_)
   ·exact ⟨fkeep fk17 a0_0,fkeep fk17 a0_1,fkeep fk17 a0_2,fkeep fk17 a2_0,fkeep fk17 a2_1,fkeep fk17 a2_2,fkeep fk17 a2_3⟩
   clear hK K
   try simp only [PU]
   refine hd_one (i:=5) rfl (by kernel_rfl) (by kernel_rfl) (fun K hK=>?_)
   go_simp
   go_at_call 23
   refine (toDemand_any g2a h2a l2a j2a _).mono ?_
   rintro e wk18 ⟨rfl,hb2⟩
   have fk18:=fstep fk17 hb2
   go_wp2_with fail
   refine hK.out _ _ ?_ (fun hHeld=>?_)
   ·exact ⟨fkeep fk18 a0_0,fkeep fk18 a0_1,fkeep fk18 a0_2,fkeep fk18 a2_0,fkeep fk18 a2_1,fkeep fk18 a2_2,fkeep fk18 a2_3⟩
   clear hK K
   try simp only [PU]
   refine hd_one (i:=7) rfl (by kernel_rfl) (by kernel_rfl) (fun K hK=>?_)
   go_simp
   go_at_call 30
   have hcc:=specServeDemand_l _ x0 _ x1 ⟨g2a,h2a,l2a,j2a⟩ x3 _ ((hy0.keep hb1).keep hb2) (hy1.keep hb2)
   rw [← HR0.out,← HR1.out,← HR2.out] at hcc
   refine hcc.mono ?_
   clear hcc
   rintro e wk19 ⟨vW,rfl,how,hbr⟩
   obtain ⟨qW,mW,cW,fW,kW,dW,tW,iW,eW,hvv⟩:=how.shape
   subst hvv
   have fk19:=fstep fk18 hbr
   go_wp2_with fail
   refine hK.out _ _ ?_ (fun hHeld=>?_)
   ·exact ⟨fkeep fk19 a0_0,fkeep fk19 a0_1,fkeep fk19 a0_2,fkeep fk19 a2_0,fkeep fk19 a2_1,fkeep fk19 a2_2,fkeep fk19 a2_3⟩
   clear hK K
   try simp only [PU]
   refine hd_tk (i:=8) (v:=?_) rfl ?_ ?_
   rotate_left
   ·(intro w hSw; (try dsimp only at hSw); go_simp; first | done | with_reducible rfl)
   try simp only [PU]
   refine hd_tk (i:=9) (v:=?_) rfl ?_ ?_
   rotate_left
   ·(intro w hSw; (try dsimp only at hSw); go_simp; first | done | with_reducible rfl)
   try simp only [PU]
   refine hd_tk (i:=10) (v:=?_) rfl ?_ ?_
   rotate_left
   ·(intro w hSw; (try dsimp only at hSw); go_simp; first | done | with_reducible rfl)
   try simp only [PU]
   refine hd_tk (i:=11) (v:=?_) rfl ?_ ?_
   rotate_left
   ·(intro w hSw; (try dsimp only at hSw); go_simp; first | done | with_reducible rfl)
   try simp only [PU]
   have rb:=((((ra.keep hb0).keep hb1).keep hb2).keep hbr)
   have z0:=rb.cell (i:=0) rfl
   have z1:=rb.cell (i:=1) rfl
   have z2:=rb.cell (i:=2) rfl
   have u0:=rb.frozen 0
   have u1:=rb.frozen 1
   have u2:=rb.frozen 2
   have fs:=(fset (fset (fset fk19 hga (o:=0) (.slice qW mW cW)) hga (o:=1) (.slice fW kW dW)) hga (o:=2) (.slice tW iW eW))
   refine hd_one (i:=13) rfl (by kernel_rfl) (by kernel_rfl) (fun K hK=>?_)
   (go_simp)
   refine hK.out _ _ ?_ (fun hHeld=>?_)
   ·exact ⟨fkeep fs a0_0,fkeep fs a0_1,fkeep fs a0_2,fkeep fs a2_0,fkeep fs a2_1,fkeep fs a2_2,fkeep fs a2_3⟩
   clear hK K
   try simp only [PU]
   refine hd_tk (i:=14) (v:=?_) rfl ?_ ?_
   rotate_left
   ·(intro w hSw; (try dsimp only at hSw); go_simp; first | done | with_reducible rfl)
   try simp only [PU]
   refine hd_done (by kernel_rfl) ?_
   clear hHeld
   simp only [List.drop_succ_cons,List.drop_zero]
   go_wp2_with fail
   go_meet
   have hrow:=(((rb.set 0 (.slice qW mW cW)).set 1 (.slice fW kW dW)).set 2 (.slice tW iW eW))
   exact ⟨_,_,_,_,_,_,_,_,_,_,rfl,rfl,rfl,hrow,(how.box rb).held.wide (Nat.zero_le _) (Nat.le_refl _),fs,hga⟩
 case rest =>
  obtain ⟨gbW,qW,mW,cW,fW,kW,dW,tW,iW,eW,rfl,rfl,rfl,hrowW,howW,hb,hgbW⟩:=hcut
  have HRW:=Lib.hid howW
  have bW_0:=hrowW.cell (i:=0) rfl
  have bW_1:=hrowW.cell (i:=1) rfl
  have bW_2:=hrowW.cell (i:=2) rfl
  have HSZ2:=Lib.hid (show gbW < wc.heap.size from hrowW.lt)
  have HSZ3:=Lib.hid hgbW
  obtain ⟨wcW,hwc⟩:∃ W,W = wc:=⟨_,rfl⟩
  subst hwc
  clear hrowW howW hgbW
  have HSZ4:=Lib.hid (hb.size)
  replace a0_0:=fkeep hb a0_0
  replace a0_1:=fkeep hb a0_1
  replace a0_2:=fkeep hb a0_2
  replace a2_0:=fkeep hb a2_0
  replace a2_1:=fkeep hb a2_1
  replace a2_2:=fkeep hb a2_2
  replace a2_3:=fkeep hb a2_3
  have HF:=Lib.hid (fstep HF.out hb)
  clear hb
  go_wp2_with fail
  refine (toPlan_o _ x0 _ (HI0.out.keep HF.out)).mono ?_
  rintro e w3 ⟨z0,rfl,hy,hm,hb⟩
  have HZ0:=Lib.hid hy
  have HM0:=Lib.hid hm
  clear hy hm
  have HSZ5:=Lib.hid (hb.size)
  replace a0_0:=fkeep hb a0_0
  replace a0_1:=fkeep hb a0_1
  replace a0_2:=fkeep hb a0_2
  replace a2_0:=fkeep hb a2_0
  replace a2_1:=fkeep hb a2_1
  replace a2_2:=fkeep hb a2_2
  replace a2_3:=fkeep hb a2_3
  replace bW_0:=fkeep hb bW_0
  replace bW_1:=fkeep hb bW_1
  replace bW_2:=fkeep hb bW_2
  have HF:=Lib.hid (fstep HF.out hb)
  replace HRW:=Lib.hid (HRW.out.keep hb)
  clear hb
  obtain ⟨q0x,m0x,c0x,p0x,k0x,d0x,r0x,i0x,e0x,hv⟩:=HZ0.out.shape
  subst hv
  obtain ⟨Xx0,hX⟩:∃ X,X = w3.alloc (.cells #[.slice q0x m0x c0x, .slice p0x k0x d0x, .slice r0x i0x e0x] 38):=⟨_,rfl⟩
  have hb:Fresh w3 Xx0:=by rw [hX]; exact fnew (frefl _) _
  have HSZ6:=Lib.hid (show Xx0.heap.size = w3.heap.size + 1 by rw [hX]; simp)
  have La0_0:=fkeep (fnew (frefl w3) (.cells #[.slice q0x m0x c0x, .slice p0x k0x d0x, .slice r0x i0x e0x] 38)) a0_0
  have La0_1:=fkeep (fnew (frefl w3) (.cells #[.slice q0x m0x c0x, .slice p0x k0x d0x, .slice r0x i0x e0x] 38)) a0_1
  have La0_2:=fkeep (fnew (frefl w3) (.cells #[.slice q0x m0x c0x, .slice p0x k0x d0x, .slice r0x i0x e0x] 38)) a0_2
  have La2_0:=fkeep (fnew (frefl w3) (.cells #[.slice q0x m0x c0x, .slice p0x k0x d0x, .slice r0x i0x e0x] 38)) a2_0
  have La2_1:=fkeep (fnew (frefl w3) (.cells #[.slice q0x m0x c0x, .slice p0x k0x d0x, .slice r0x i0x e0x] 38)) a2_1
  have La2_2:=fkeep (fnew (frefl w3) (.cells #[.slice q0x m0x c0x, .slice p0x k0x d0x, .slice r0x i0x e0x] 38)) a2_2
  have La2_3:=fkeep (fnew (frefl w3) (.cells #[.slice q0x m0x c0x, .slice p0x k0x d0x, .slice r0x i0x e0x] 38)) a2_3
  have LbW_0:=fkeep (fnew (frefl w3) (.cells #[.slice q0x m0x c0x, .slice p0x k0x d0x, .slice r0x i0x e0x] 38)) bW_0
  have LbW_1:=fkeep (fnew (frefl w3) (.cells #[.slice q0x m0x c0x, .slice p0x k0x d0x, .slice r0x i0x e0x] 38)) bW_1
  have LbW_2:=fkeep (fnew (frefl w3) (.cells #[.slice q0x m0x c0x, .slice p0x k0x d0x, .slice r0x i0x e0x] 38)) bW_2
  have c0_0:Xx0.cell? ⟨w3.heap.size,0,none⟩ = some (.slice q0x m0x c0x):=by rw [hX]; exact (RowAt.new w3 38 [.slice q0x m0x c0x, .slice p0x k0x d0x, .slice r0x i0x e0x]).cell (i:=0) rfl
  have c0_1:Xx0.cell? ⟨w3.heap.size,1,none⟩ = some (.slice p0x k0x d0x):=by rw [hX]; exact (RowAt.new w3 38 [.slice q0x m0x c0x, .slice p0x k0x d0x, .slice r0x i0x e0x]).cell (i:=1) rfl
  have c0_2:Xx0.cell? ⟨w3.heap.size,2,none⟩ = some (.slice r0x i0x e0x):=by rw [hX]; exact (RowAt.new w3 38 [.slice q0x m0x c0x, .slice p0x k0x d0x, .slice r0x i0x e0x]).cell (i:=2) rfl
  replace a0_0:=fkeep hb a0_0
  replace a0_1:=fkeep hb a0_1
  replace a0_2:=fkeep hb a0_2
  replace a2_0:=fkeep hb a2_0
  replace a2_1:=fkeep hb a2_1
  replace a2_2:=fkeep hb a2_2
  replace a2_3:=fkeep hb a2_3
  replace bW_0:=fkeep hb bW_0
  replace bW_1:=fkeep hb bW_1
  replace bW_2:=fkeep hb bW_2
  have HF:=Lib.hid (fstep HF.out hb)
  replace HRW:=Lib.hid (HRW.out.keep hb)
  replace HZ0:=Lib.hid (HZ0.out.keep hb)
  replace HM0:=Lib.hid (HM0.out.keep hb)
  clear hb
  have Ha0_0:=Lib.hid a0_0
  have Ha0_1:=Lib.hid a0_1
  have Ha0_2:=Lib.hid a0_2
  have Ha2_0:=Lib.hid a2_0
  have Ha2_1:=Lib.hid a2_1
  have Ha2_2:=Lib.hid a2_2
  have Ha2_3:=Lib.hid a2_3
  have HbW_0:=Lib.hid bW_0
  have HbW_1:=Lib.hid bW_1
  have HbW_2:=Lib.hid bW_2
  have Hc0_0:=Lib.hid c0_0
  have Hc0_1:=Lib.hid c0_1
  have Hc0_2:=Lib.hid c0_2
  clear a0_0 a0_1 a0_2 a2_0 a2_1 a2_2 a2_3 bW_0 bW_1 bW_2 c0_0 c0_1 c0_2
  have HXx0:=Lib.hid hX
  clear hX
  go_wp2_with fail
  rw [← HXx0.out]
  clear HXx0
  clear La0_0 La0_1 La0_2 La2_0 La2_1 La2_2 La2_3 LbW_0 LbW_1 LbW_2
  have a0_0:=Ha0_0.out
  have a0_1:=Ha0_1.out
  have a0_2:=Ha0_2.out
  have a2_0:=Ha2_0.out
  have a2_1:=Ha2_1.out
  have a2_2:=Ha2_2.out
  have a2_3:=Ha2_3.out
  have bW_0:=HbW_0.out
  have bW_1:=HbW_1.out
  have bW_2:=HbW_2.out
  have c0_0:=Hc0_0.out
  have c0_1:=Hc0_1.out
  have c0_2:=Hc0_2.out
  clear Ha0_0 Ha0_1 Ha0_2 Ha2_0 Ha2_1 Ha2_2 Ha2_3 HbW_0 HbW_1 HbW_2 Hc0_0 Hc0_1 Hc0_2
  go_wp2_with fail
  refine (toFm_o _ x1 _ (HI1.out.keep HF.out)).mono ?_
  rintro e w4 ⟨z1,rfl,hy,hm,hb⟩
  have HZ1:=Lib.hid hy
  have HM1:=Lib.hid hm
  clear hy hm
  have HSZ7:=Lib.hid (hb.size)
  replace a0_0:=fkeep hb a0_0
  replace a0_1:=fkeep hb a0_1
  replace a0_2:=fkeep hb a0_2
  replace a2_0:=fkeep hb a2_0
  replace a2_1:=fkeep hb a2_1
  replace a2_2:=fkeep hb a2_2
  replace a2_3:=fkeep hb a2_3
  replace bW_0:=fkeep hb bW_0
  replace bW_1:=fkeep hb bW_1
  replace bW_2:=fkeep hb bW_2
  replace c0_0:=fkeep hb c0_0
  replace c0_1:=fkeep hb c0_1
  replace c0_2:=fkeep hb c0_2
  have HF:=Lib.hid (fstep HF.out hb)
  replace HRW:=Lib.hid (HRW.out.keep hb)
  replace HZ0:=Lib.hid (HZ0.out.keep hb)
  replace HM0:=Lib.hid (HM0.out.keep hb)
  clear hb
  go_upto_region 11 with fail
  go_cut [15,16,17] (fun z15 z16 z17 wx=>∃ (gb:Nat) (qG:Option Addr) (mG:Nat) (cG:Nat) (fG:Option Addr) (kG:Nat) (dG:Nat) (tG:Option Addr) (iG:Nat) (eG:Nat),z15 = .pointer (some ⟨gb,0,none⟩)∧z16 = .int .i64 r1∧z17 = .bool r2∧RowAt wx gb 38 [.slice qG mG cG, .slice fG kG dG, .slice tG iG eG]∧PlHeld wx (w4.heap.size) wx.heap.size (.agg #[.slice qG mG cG, .slice fG kG dG, .slice tG iG eG]) r0∧Fresh w4 wx∧w4.heap.size ≤ gb)
  case first =>
   refine hd_start (n:=13) (S:=fun wz=>wz.cell? ⟨w3.heap.size,0,none⟩ = some (.slice q0x m0x c0x)∧wz.cell? ⟨w3.heap.size,1,none⟩ = some (.slice p0x k0x d0x)∧wz.cell? ⟨w3.heap.size,2,none⟩ = some (.slice r0x i0x e0x)∧wz.cell? ⟨w.heap.size + 1,0,none⟩ = some (.int .i64 g2a)∧wz.cell? ⟨w.heap.size + 1,1,none⟩ = some (.int .i64 h2a)∧wz.cell? ⟨w.heap.size + 1,2,none⟩ = some (.int .i64 l2a)∧wz.cell? ⟨w.heap.size + 1,3,none⟩ = some (.int .i64 j2a)) (by kernel_rfl) (by kernel_rfl) ⟨fkeep (fdrew (frefl _)) c0_0,fkeep (fdrew (frefl _)) c0_1,fkeep (fdrew (frefl _)) c0_2,fkeep (fdrew (frefl _)) a2_0,fkeep (fdrew (frefl _)) a2_1,fkeep (fdrew (frefl _)) a2_2,fkeep (fdrew (frefl _)) a2_3⟩ (fun hHeld=>?_)
   obtain ⟨Wz,hWz⟩:∃ W,W = w4.drew:=⟨_,rfl⟩
   rw [← hWz] at hHeld ⊢
   have f0:Fresh w4 Wz:=by rw [hWz]; exact fdrew (frefl _)
   clear hWz
   refine hd_tk (i:=0) (v:=?_) rfl ?_ ?_
   rotate_left
   ·(intro w hSw; (try dsimp only at hSw); go_simp; first | done | with_reducible rfl)
   try simp only [PU]
   refine hd_tk (i:=1) (v:=?_) rfl ?_ ?_
   rotate_left
   ·(intro w hSw; (try dsimp only at hSw); go_simp; first | done | with_reducible rfl)
   try simp only [PU]
   refine hd_tk (i:=2) (v:=?_) rfl ?_ ?_
   rotate_left
   ·(intro w hSw; (try dsimp only at hSw); go_simp; first | done | with_reducible rfl)
   try simp only [PU]
   refine hd_tk (i:=4) (v:=?_) rfl ?_ ?_
   rotate_left
   ·(intro w hSw; (try dsimp only at hSw); go_simp; first | done | with_reducible rfl)
   try simp only [PU]
   refine hd_ready (rs:=[3,10]) (by kernel_rfl) (by simp) ?_
   refine hd_cons (i:=3) rfl (by kernel_rfl) (fun K hK=>?_) ?_
   ·skip
    go_simp
    go_at_call 23
    refine (toDemand_any g2a h2a l2a j2a _).mono ?_
    rintro e wk1 ⟨rfl,hb2⟩
    have fk1:=fstep f0 hb2
    go_wp2_with fail
    refine hK.out _ _ ?_ (fun hHeld=>?_)
    ·exact ⟨fkeep fk1 c0_0,fkeep fk1 c0_1,fkeep fk1 c0_2,fkeep fk1 a2_0,fkeep fk1 a2_1,fkeep fk1 a2_2,fkeep fk1 a2_3⟩
    clear hK K
    try simp only [PU]
    refine hd_ready (rs:=[5,10]) (by kernel_rfl) (by simp) ?_
    refine hd_cons (i:=5) rfl (by kernel_rfl) (fun K hK=>?_) ?_
    ·skip
     go_simp
     go_at_call 31
     have hcc:=implServeDemand_l _ x0 _ x1 ⟨g2a,h2a,l2a,j2a⟩ x3 _ (HZ0.out.keep fk1) (HZ1.out.keep fk1)
     rw [← HR0.out,← HR1.out,← HR2.out] at hcc
     refine hcc.mono ?_
     clear hcc
     rintro e wk2 ⟨vG,rfl,how,hbr⟩
     obtain ⟨qG,mG,cG,fG,kG,dG,tG,iG,eG,hvv⟩:=how.shape
     subst hvv
     have fk2:=fstep fk1 hbr
     go_wp2_with fail
     refine hK.out _ _ ?_ (fun hHeld=>?_)
     ·exact ⟨fkeep fk2 c0_0,fkeep fk2 c0_1,fkeep fk2 c0_2,fkeep fk2 a2_0,fkeep fk2 a2_1,fkeep fk2 a2_2,fkeep fk2 a2_3⟩
     clear hK K
     try simp only [PU]
     refine hd_tk (i:=6) (v:=?_) rfl ?_ ?_
     rotate_left
     ·(intro w hSw; (try dsimp only at hSw); go_simp; first | done | with_reducible rfl)
     try simp only [PU]
     refine hd_tk (i:=7) (v:=?_) rfl ?_ ?_
     rotate_left
     ·(intro w hSw; (try dsimp only at hSw); go_simp; first | done | with_reducible rfl)
     try simp only [PU]
     refine hd_tk (i:=8) (v:=?_) rfl ?_ ?_
     rotate_left
     ·(intro w hSw; (try dsimp only at hSw); go_simp; first | done | with_reducible rfl)
     try simp only [PU]
     refine hd_tk (i:=9) (v:=?_) rfl ?_ ?_
     rotate_left
     ·(intro w hSw; (try dsimp only at hSw); go_simp; first | done | with_reducible rfl)
     try simp only [PU]
     refine hd_one (i:=10) rfl (by kernel_rfl) (by kernel_rfl) (fun K hK=>?_)
     go_simp
     obtain ⟨wk3,hwa⟩:∃ W,W = wk2.alloc (.cells #[.slice none 0 0, .slice none 0 0, .slice none 0 0] 38):=⟨_,rfl⟩
     rw [← hwa]
     have hba:Fresh wk2 wk3:=by rw [hwa]; exact fnew (frefl _) _
     have ra:RowAt wk3 wk2.heap.size 38 [.slice none 0 0, .slice none 0 0, .slice none 0 0]:=by rw [hwa]; exact RowAt.new _ _ _
     have hga:w4.heap.size ≤ wk2.heap.size:=fk2.size
     have fk3:=fstep fk2 hba
     clear hwa
     refine hK.out _ _ ?_ (fun hHeld=>?_)
     ·exact ⟨fkeep fk3 c0_0,fkeep fk3 c0_1,fkeep fk3 c0_2,fkeep fk3 a2_0,fkeep fk3 a2_1,fkeep fk3 a2_2,fkeep fk3 a2_3⟩
     clear hK K
     try simp only [PU]
     have rb:=ra
     have z0:=rb.cell (i:=0) rfl
     have z1:=rb.cell (i:=1) rfl
     have z2:=rb.cell (i:=2) rfl
     have u0:=rb.frozen 0
     have u1:=rb.frozen 1
     have u2:=rb.frozen 2
     have fs:=(fset (fset (fset fk3 hga (o:=0) (.slice qG mG cG)) hga (o:=1) (.slice fG kG dG)) hga (o:=2) (.slice tG iG eG))
     refine hd_one (i:=11) rfl (by kernel_rfl) (by kernel_rfl) (fun K hK=>?_)
     (go_simp)
     refine hK.out _ _ ?_ (fun hHeld=>?_)
     ·exact ⟨fkeep fs c0_0,fkeep fs c0_1,fkeep fs c0_2,fkeep fs a2_0,fkeep fs a2_1,fkeep fs a2_2,fkeep fs a2_3⟩
     clear hK K
     try simp only [PU]
     refine hd_tk (i:=12) (v:=?_) rfl ?_ ?_
     rotate_left
     ·(intro w hSw; (try dsimp only at hSw); go_simp; first | done | with_reducible rfl)
     try simp only [PU]
     refine hd_done (by kernel_rfl) ?_
     clear hHeld
     simp only [List.drop_succ_cons,List.drop_zero]
     go_wp2_with fail
     go_meet
     have hrow:=(((rb.set 0 (.slice qG mG cG)).set 1 (.slice fG kG dG)).set 2 (.slice tG iG eG))
     exact ⟨_,_,_,_,_,_,_,_,_,_,rfl,rfl,rfl,hrow,(((how.keep hba).box rb).mono fk1.size).held,fs,hga⟩
    ·refine hd_cons (i:=10) rfl (by kernel_rfl) (fun K hK=>?_) hd_nil
     go_simp
     obtain ⟨wk4,hwa⟩:∃ W,W = wk1.alloc (.cells #[.slice none 0 0, .slice none 0 0, .slice none 0 0] 38):=⟨_,rfl⟩
     rw [← hwa]
     have hba:Fresh wk1 wk4:=by rw [hwa]; exact fnew (frefl _) _
     have ra:RowAt wk4 wk1.heap.size 38 [.slice none 0 0, .slice none 0 0, .slice none 0 0]:=by rw [hwa]; exact RowAt.new _ _ _
     have hga:w4.heap.size ≤ wk1.heap.size:=fk1.size
     have fk4:=fstep fk1 hba
     clear hwa
     refine hK.out _ _ ?_ (fun hHeld=>?_)
     ·exact ⟨fkeep fk4 c0_0,fkeep fk4 c0_1,fkeep fk4 c0_2,fkeep fk4 a2_0,fkeep fk4 a2_1,fkeep fk4 a2_2,fkeep fk4 a2_3⟩
     clear hK K
     try simp only [PU]
     refine hd_one (i:=5) rfl (by kernel_rfl) (by kernel_rfl) (fun K hK=>?_)
     go_simp
     go_at_call 31
     have hcc:=implServeDemand_l _ x0 _ x1 ⟨g2a,h2a,l2a,j2a⟩ x3 _ (HZ0.out.keep fk4) (HZ1.out.keep fk4)
     rw [← HR0.out,← HR1.out,← HR2.out] at hcc
     refine hcc.mono ?_
     clear hcc
     rintro e wk5 ⟨vG,rfl,how,hbr⟩
     obtain ⟨qG,mG,cG,fG,kG,dG,tG,iG,eG,hvv⟩:=how.shape
     subst hvv
     have fk5:=fstep fk4 hbr
     go_wp2_with fail
     refine hK.out _ _ ?_ (fun hHeld=>?_)
     ·exact ⟨fkeep fk5 c0_0,fkeep fk5 c0_1,fkeep fk5 c0_2,fkeep fk5 a2_0,fkeep fk5 a2_1,fkeep fk5 a2_2,fkeep fk5 a2_3⟩
     clear hK K
     try simp only [PU]
     refine hd_tk (i:=6) (v:=?_) rfl ?_ ?_
     rotate_left
     ·(intro w hSw; (try dsimp only at hSw); go_simp; first | done | with_reducible rfl)
     try simp only [PU]
     refine hd_tk (i:=7) (v:=?_) rfl ?_ ?_
     rotate_left
     ·(intro w hSw; (try dsimp only at hSw); go_simp; first | done | with_reducible rfl)
     try simp only [PU]
     refine hd_tk (i:=8) (v:=?_) rfl ?_ ?_
     rotate_left
     ·(intro w hSw; (try dsimp only at hSw); go_simp; first | done | with_reducible rfl)
     try simp only [PU]
     refine hd_tk (i:=9) (v:=?_) rfl ?_ ?_
     rotate_left
     ·(intro w hSw; (try dsimp only at hSw); go_simp; first | done | with_reducible rfl)
     try simp only [PU]
     have rb:=(ra.keep hbr)
     have z0:=rb.cell (i:=0) rfl
     have z1:=rb.cell (i:=1) rfl
     have z2:=rb.cell (i:=2) rfl
     have u0:=rb.frozen 0
     have u1:=rb.frozen 1
     have u2:=rb.frozen 2
     have fs:=(fset (fset (fset fk5 hga (o:=0) (.slice qG mG cG)) hga (o:=1) (.slice fG kG dG)) hga (o:=2) (.slice tG iG eG))
     refine hd_one (i:=11) rfl (by kernel_rfl) (by kernel_rfl) (fun K hK=>?_)
     (go_simp)
     refine hK.out _ _ ?_ (fun hHeld=>?_)
     ·exact ⟨fkeep fs c0_0,fkeep fs c0_1,fkeep fs c0_2,fkeep fs a2_0,fkeep fs a2_1,fkeep fs a2_2,fkeep fs a2_3⟩
     clear hK K
     try simp only [PU]
     refine hd_tk (i:=12) (v:=?_) rfl ?_ ?_
     rotate_left
     ·(intro w hSw; (try dsimp only at hSw); go_simp; first | done | with_reducible rfl)
     try simp only [PU]
     refine hd_done (by kernel_rfl) ?_
     clear hHeld
     simp only [List.drop_succ_cons,List.drop_zero]
     go_wp2_with fail
     go_meet
     have hrow:=(((rb.set 0 (.slice qG mG cG)).set 1 (.slice fG kG dG)).set 2 (.slice tG iG eG))
     exact ⟨_,_,_,_,_,_,_,_,_,_,rfl,rfl,rfl,hrow,((how.box rb).mono fk4.size).held,fs,hga⟩
   ·refine hd_cons (i:=10) rfl (by kernel_rfl) (fun K hK=>?_) hd_nil
    go_simp
    obtain ⟨wk6,hwa⟩:∃ W,W = Wz.alloc (.cells #[.slice none 0 0, .slice none 0 0, .slice none 0 0] 38):=⟨_,rfl⟩
    rw [← hwa]
    have hba:Fresh Wz wk6:=by rw [hwa]; exact fnew (frefl _) _
    have ra:RowAt wk6 Wz.heap.size 38 [.slice none 0 0, .slice none 0 0, .slice none 0 0]:=by rw [hwa]; exact RowAt.new _ _ _
    have hga:w4.heap.size ≤ Wz.heap.size:=f0.size
    have fk6:=fstep f0 hba
    clear hwa
    refine hK.out _ _ ?_ (fun hHeld=>?_)
    ·exact ⟨fkeep fk6 c0_0,fkeep fk6 c0_1,fkeep fk6 c0_2,fkeep fk6 a2_0,fkeep fk6 a2_1,fkeep fk6 a2_2,fkeep fk6 a2_3⟩
    clear hK K
    try simp only [PU]
    refine hd_one (i:=3) rfl (by kernel_rfl) (by kernel_rfl) (fun K hK=>?_)
    go_simp
    go_at_call 23
    refine (toDemand_any g2a h2a l2a j2a _).mono ?_
    rintro e wk7 ⟨rfl,hb2⟩
    have fk7:=fstep fk6 hb2
    go_wp2_with fail
    refine hK.out _ _ ?_ (fun hHeld=>?_)
    ·exact ⟨fkeep fk7 c0_0,fkeep fk7 c0_1,fkeep fk7 c0_2,fkeep fk7 a2_0,fkeep fk7 a2_1,fkeep fk7 a2_2,fkeep fk7 a2_3⟩
    clear hK K
    try simp only [PU]
    refine hd_one (i:=5) rfl (by kernel_rfl) (by kernel_rfl) (fun K hK=>?_)
    go_simp
    go_at_call 31
    have hcc:=implServeDemand_l _ x0 _ x1 ⟨g2a,h2a,l2a,j2a⟩ x3 _ (HZ0.out.keep fk7) (HZ1.out.keep fk7)
    rw [← HR0.out,← HR1.out,← HR2.out] at hcc
    refine hcc.mono ?_
    clear hcc
    rintro e wk8 ⟨vG,rfl,how,hbr⟩
    obtain ⟨qG,mG,cG,fG,kG,dG,tG,iG,eG,hvv⟩:=how.shape
    subst hvv
    have fk8:=fstep fk7 hbr
    go_wp2_with fail
    refine hK.out _ _ ?_ (fun hHeld=>?_)
    ·exact ⟨fkeep fk8 c0_0,fkeep fk8 c0_1,fkeep fk8 c0_2,fkeep fk8 a2_0,fkeep fk8 a2_1,fkeep fk8 a2_2,fkeep fk8 a2_3⟩
    clear hK K
    try simp only [PU]
    refine hd_tk (i:=6) (v:=?_) rfl ?_ ?_
    rotate_left
    ·(intro w hSw; (try dsimp only at hSw); go_simp; first | done | with_reducible rfl)
    try simp only [PU]
    refine hd_tk (i:=7) (v:=?_) rfl ?_ ?_
    rotate_left
    ·(intro w hSw; (try dsimp only at hSw); go_simp; first | done | with_reducible rfl)
    try simp only [PU]
    refine hd_tk (i:=8) (v:=?_) rfl ?_ ?_
    rotate_left
    ·(intro w hSw; (try dsimp only at hSw); go_simp; first | done | with_reducible rfl)
    try simp only [PU]
    refine hd_tk (i:=9) (v:=?_) rfl ?_ ?_
    rotate_left
    ·(intro w hSw; (try dsimp only at hSw); go_simp; first | done | with_reducible rfl)
    try simp only [PU]
    have rb:=((ra.keep hb2).keep hbr)
    have z0:=rb.cell (i:=0) rfl
    have z1:=rb.cell (i:=1) rfl
    have z2:=rb.cell (i:=2) rfl
    have u0:=rb.frozen 0
    have u1:=rb.frozen 1
    have u2:=rb.frozen 2
    have fs:=(fset (fset (fset fk8 hga (o:=0) (.slice qG mG cG)) hga (o:=1) (.slice fG kG dG)) hga (o:=2) (.slice tG iG eG))
    refine hd_one (i:=11) rfl (by kernel_rfl) (by kernel_rfl) (fun K hK=>?_)
    (go_simp)
    refine hK.out _ _ ?_ (fun hHeld=>?_)
    ·exact ⟨fkeep fs c0_0,fkeep fs c0_1,fkeep fs c0_2,fkeep fs a2_0,fkeep fs a2_1,fkeep fs a2_2,fkeep fs a2_3⟩
    clear hK K
    try simp only [PU]
    refine hd_tk (i:=12) (v:=?_) rfl ?_ ?_
    rotate_left
    ·(intro w hSw; (try dsimp only at hSw); go_simp; first | done | with_reducible rfl)
    try simp only [PU]
    refine hd_done (by kernel_rfl) ?_
    clear hHeld
    simp only [List.drop_succ_cons,List.drop_zero]
    go_wp2_with fail
    go_meet
    have hrow:=(((rb.set 0 (.slice qG mG cG)).set 1 (.slice fG kG dG)).set 2 (.slice tG iG eG))
    exact ⟨_,_,_,_,_,_,_,_,_,_,rfl,rfl,rfl,hrow,((how.box rb).mono fk7.size).held,fs,hga⟩
  case rest =>
   obtain ⟨gbG,qG,mG,cG,fG,kG,dG,tG,iG,eG,rfl,rfl,rfl,hrowG,howG,hb,hgbG⟩:=hcut
   have HRG:=Lib.hid howG
   have HRWG:=Lib.hid hrowG
   have bG_0:=hrowG.cell (i:=0) rfl
   have bG_1:=hrowG.cell (i:=1) rfl
   have bG_2:=hrowG.cell (i:=2) rfl
   have HSZ8:=Lib.hid (show gbG < wc.heap.size from hrowG.lt)
   have HSZ9:=Lib.hid hgbG
   obtain ⟨wcG,hwc⟩:∃ W,W = wc:=⟨_,rfl⟩
   subst hwc
   clear hrowG howG hgbG
   have HSZ10:=Lib.hid (hb.size)
   replace a0_0:=fkeep hb a0_0
   replace a0_1:=fkeep hb a0_1
   replace a0_2:=fkeep hb a0_2
   replace a2_0:=fkeep hb a2_0
   replace a2_1:=fkeep hb a2_1
   replace a2_2:=fkeep hb a2_2
   replace a2_3:=fkeep hb a2_3
   replace bW_0:=fkeep hb bW_0
   replace bW_1:=fkeep hb bW_1
   replace bW_2:=fkeep hb bW_2
   replace c0_0:=fkeep hb c0_0
   replace c0_1:=fkeep hb c0_1
   replace c0_2:=fkeep hb c0_2
   have HF:=Lib.hid (fstep HF.out hb)
   replace HRW:=Lib.hid (HRW.out.keep hb)
   replace HZ0:=Lib.hid (HZ0.out.keep hb)
   replace HM0:=Lib.hid (HM0.out.keep hb)
   replace HZ1:=Lib.hid (HZ1.out.keep hb)
   replace HM1:=Lib.hid (HM1.out.keep hb)
   clear hb
   go_wp2_with fail
   refine (eqPl_r _ _ _ _ _ _ r0 _ (HRG.out) (HRW.out) HSM.out).mono ?_
   rintro e w5 ⟨rfl,hb⟩
   have HSZ11:=Lib.hid (hb.size)
   replace a0_0:=fkeep hb a0_0
   replace a0_1:=fkeep hb a0_1
   replace a0_2:=fkeep hb a0_2
   replace a2_0:=fkeep hb a2_0
   replace a2_1:=fkeep hb a2_1
   replace a2_2:=fkeep hb a2_2
   replace a2_3:=fkeep hb a2_3
   replace bW_0:=fkeep hb bW_0
   replace bW_1:=fkeep hb bW_1
   replace bW_2:=fkeep hb bW_2
   replace c0_0:=fkeep hb c0_0
   replace c0_1:=fkeep hb c0_1
   replace c0_2:=fkeep hb c0_2
   replace bG_0:=fkeep hb bG_0
   replace bG_1:=fkeep hb bG_1
   replace bG_2:=fkeep hb bG_2
   have HF:=Lib.hid (fstep HF.out hb)
   replace HRW:=Lib.hid (HRW.out.keep hb)
   replace HZ0:=Lib.hid (HZ0.out.keep hb)
   replace HM0:=Lib.hid (HM0.out.keep hb)
   replace HZ1:=Lib.hid (HZ1.out.keep hb)
   replace HM1:=Lib.hid (HM1.out.keep hb)
   replace HRWG:=Lib.hid (HRWG.out.keep hb)
   replace HRG:=Lib.hid (HRG.out.keep hb)
   clear hb
   go_wp2
   have HSS:Fresh w5 w5∧w5.cell? ⟨w3.heap.size,0,none⟩ = some (.slice q0x m0x c0x)∧w5.cell? ⟨w3.heap.size,1,none⟩ = some (.slice p0x k0x d0x)∧w5.cell? ⟨w3.heap.size,2,none⟩ = some (.slice r0x i0x e0x)∧w5.cell? ⟨w.heap.size,0,none⟩ = some (.slice q0a m0a c0a)∧w5.cell? ⟨w.heap.size,1,none⟩ = some (.slice p0a k0a d0a)∧w5.cell? ⟨w.heap.size,2,none⟩ = some (.slice r0a i0a e0a):=⟨frefl _,c0_0,c0_1,c0_2,a0_0,a0_1,a0_2⟩
   go_region_held3 (fun w'=>Fresh w5 w'∧w'.cell? ⟨w3.heap.size,0,none⟩ = some (.slice q0x m0x c0x)∧w'.cell? ⟨w3.heap.size,1,none⟩ = some (.slice p0x k0x d0x)∧w'.cell? ⟨w3.heap.size,2,none⟩ = some (.slice r0x i0x e0x)∧w'.cell? ⟨w.heap.size,0,none⟩ = some (.slice q0a m0a c0a)∧w'.cell? ⟨w.heap.size,1,none⟩ = some (.slice p0a k0a d0a)∧w'.cell? ⟨w.heap.size,2,none⟩ = some (.slice r0a i0a e0a))
    (first | assumption | exact keepc6 (by assumption) (by assumption) | exact keepc6 (by assumption) (fdrew (frefl _)) | exact keepc6 (by assumption) (frefl _))
    (first | (go_at_call 21; refine (toPlan_k _ x0 _ (HI0.out.keep (fstep HF.out (And.left (by assumption))))).mono ?_; rintro e w6 ⟨t0,rfl,hy,hb10⟩; have HT0:=Lib.hid hy; clear hy) | (go_at_call 13; refine (eqPlan_k _ _ x0 _ (HZ0.out.keep (And.left (by assumption))) HT0.out).mono ?_; rintro e w7 ⟨rfl,hb11⟩))
   have hb:Fresh w5 w7:=fstep (fstep (fdrew (frefl _)) hb10) hb11
   clear hb10 hb11 HSS HT0
   have HSZ12:=Lib.hid (hb.size)
   replace a0_0:=fkeep hb a0_0
   replace a0_1:=fkeep hb a0_1
   replace a0_2:=fkeep hb a0_2
   replace a2_0:=fkeep hb a2_0
   replace a2_1:=fkeep hb a2_1
   replace a2_2:=fkeep hb a2_2
   replace a2_3:=fkeep hb a2_3
   replace bW_0:=fkeep hb bW_0
   replace bW_1:=fkeep hb bW_1
   replace bW_2:=fkeep hb bW_2
   replace c0_0:=fkeep hb c0_0
   replace c0_1:=fkeep hb c0_1
   replace c0_2:=fkeep hb c0_2
   replace bG_0:=fkeep hb bG_0
   replace bG_1:=fkeep hb bG_1
   replace bG_2:=fkeep hb bG_2
   have HF:=Lib.hid (fstep HF.out hb)
   replace HRW:=Lib.hid (HRW.out.keep hb)
   replace HZ0:=Lib.hid (HZ0.out.keep hb)
   replace HM0:=Lib.hid (HM0.out.keep hb)
   replace HZ1:=Lib.hid (HZ1.out.keep hb)
   replace HM1:=Lib.hid (HM1.out.keep hb)
   replace HRWG:=Lib.hid (HRWG.out.keep hb)
   replace HRG:=Lib.hid (HRG.out.keep hb)
   clear hb
   go_wp2_with fail
   refine (toFm_k _ x1 _ (HI1.out.keep HF.out)).mono ?_
   rintro e w8 ⟨t1,rfl,hy,hb⟩
   have HT1:=Lib.hid hy
   clear hy
   have HSZ13:=Lib.hid (hb.size)
   replace a0_0:=fkeep hb a0_0
   replace a0_1:=fkeep hb a0_1
   replace a0_2:=fkeep hb a0_2
   replace a2_0:=fkeep hb a2_0
   replace a2_1:=fkeep hb a2_1
   replace a2_2:=fkeep hb a2_2
   replace a2_3:=fkeep hb a2_3
   replace bW_0:=fkeep hb bW_0
   replace bW_1:=fkeep hb bW_1
   replace bW_2:=fkeep hb bW_2
   replace c0_0:=fkeep hb c0_0
   replace c0_1:=fkeep hb c0_1
   replace c0_2:=fkeep hb c0_2
   replace bG_0:=fkeep hb bG_0
   replace bG_1:=fkeep hb bG_1
   replace bG_2:=fkeep hb bG_2
   have HF:=Lib.hid (fstep HF.out hb)
   replace HRW:=Lib.hid (HRW.out.keep hb)
   replace HZ0:=Lib.hid (HZ0.out.keep hb)
   replace HM0:=Lib.hid (HM0.out.keep hb)
   replace HZ1:=Lib.hid (HZ1.out.keep hb)
   replace HM1:=Lib.hid (HM1.out.keep hb)
   replace HRWG:=Lib.hid (HRWG.out.keep hb)
   replace HRG:=Lib.hid (HRG.out.keep hb)
   clear hb
   go_wp2_with fail
   refine (eqFm_k _ _ x1 _ HZ1.out (HT1.out)).mono ?_
   rintro e w9 ⟨rfl,hb⟩
   have HSZ14:=Lib.hid (hb.size)
   replace a0_0:=fkeep hb a0_0
   replace a0_1:=fkeep hb a0_1
   replace a0_2:=fkeep hb a0_2
   replace a2_0:=fkeep hb a2_0
   replace a2_1:=fkeep hb a2_1
   replace a2_2:=fkeep hb a2_2
   replace a2_3:=fkeep hb a2_3
   replace bW_0:=fkeep hb bW_0
   replace bW_1:=fkeep hb bW_1
   replace bW_2:=fkeep hb bW_2
   replace c0_0:=fkeep hb c0_0
   replace c0_1:=fkeep hb c0_1
   replace c0_2:=fkeep hb c0_2
   replace bG_0:=fkeep hb bG_0
   replace bG_1:=fkeep hb bG_1
   replace bG_2:=fkeep hb bG_2
   have HF:=Lib.hid (fstep HF.out hb)
   replace HRW:=Lib.hid (HRW.out.keep hb)
   replace HZ0:=Lib.hid (HZ0.out.keep hb)
   replace HM0:=Lib.hid (HM0.out.keep hb)
   replace HZ1:=Lib.hid (HZ1.out.keep hb)
   replace HM1:=Lib.hid (HM1.out.keep hb)
   replace HRWG:=Lib.hid (HRWG.out.keep hb)
   replace HRG:=Lib.hid (HRG.out.keep hb)
   clear hb
   clear HT1
   clear HZ0 HZ1
   go_wp2_with fail
   refine (markPlan_m _ (wcW.heap.size) (w3.heap.size) 1 _ HM0.out (by have s0:=HSZ0.out; have s1:=HSZ1.out; have s2:=HSZ2.out; have s3:=HSZ3.out; have s4:=HSZ4.out; have s5:=HSZ5.out; have s6:=HSZ6.out; have s7:=HSZ7.out; have s8:=HSZ8.out; have s9:=HSZ9.out; have s10:=HSZ10.out; have s11:=HSZ11.out; have s12:=HSZ12.out; have s13:=HSZ13.out; have s14:=HSZ14.out; omega) (by have s0:=HSZ0.out; have s1:=HSZ1.out; have s2:=HSZ2.out; have s3:=HSZ3.out; have s4:=HSZ4.out; have s5:=HSZ5.out; have s6:=HSZ6.out; have s7:=HSZ7.out; have s8:=HSZ8.out; have s9:=HSZ9.out; have s10:=HSZ10.out; have s11:=HSZ11.out; have s12:=HSZ12.out; have s13:=HSZ13.out; have s14:=HSZ14.out; omega) (by omega) (by omega)).mono ?_
   rintro e w10 ⟨k0,rfl,hka0,hkb0,hb⟩
   clear HM0
   replace hkb0:k0 ≤ 1 + 17592186044416:=hkb0
   have HSZ15:=Lib.hid (hb.low.size)
   replace a0_0:=Mk.cell hb (by first | exact Or.inl (by have s0:=HSZ0.out; have s1:=HSZ1.out; have s2:=HSZ2.out; have s3:=HSZ3.out; have s4:=HSZ4.out; have s5:=HSZ5.out; have s6:=HSZ6.out; have s7:=HSZ7.out; have s8:=HSZ8.out; have s9:=HSZ9.out; have s10:=HSZ10.out; have s11:=HSZ11.out; have s12:=HSZ12.out; have s13:=HSZ13.out; have s14:=HSZ14.out; have s15:=HSZ15.out; omega) | exact Or.inr (by have s0:=HSZ0.out; have s1:=HSZ1.out; have s2:=HSZ2.out; have s3:=HSZ3.out; have s4:=HSZ4.out; have s5:=HSZ5.out; have s6:=HSZ6.out; have s7:=HSZ7.out; have s8:=HSZ8.out; have s9:=HSZ9.out; have s10:=HSZ10.out; have s11:=HSZ11.out; have s12:=HSZ12.out; have s13:=HSZ13.out; have s14:=HSZ14.out; have s15:=HSZ15.out; omega)) a0_0
   replace a0_1:=Mk.cell hb (by first | exact Or.inl (by have s0:=HSZ0.out; have s1:=HSZ1.out; have s2:=HSZ2.out; have s3:=HSZ3.out; have s4:=HSZ4.out; have s5:=HSZ5.out; have s6:=HSZ6.out; have s7:=HSZ7.out; have s8:=HSZ8.out; have s9:=HSZ9.out; have s10:=HSZ10.out; have s11:=HSZ11.out; have s12:=HSZ12.out; have s13:=HSZ13.out; have s14:=HSZ14.out; have s15:=HSZ15.out; omega) | exact Or.inr (by have s0:=HSZ0.out; have s1:=HSZ1.out; have s2:=HSZ2.out; have s3:=HSZ3.out; have s4:=HSZ4.out; have s5:=HSZ5.out; have s6:=HSZ6.out; have s7:=HSZ7.out; have s8:=HSZ8.out; have s9:=HSZ9.out; have s10:=HSZ10.out; have s11:=HSZ11.out; have s12:=HSZ12.out; have s13:=HSZ13.out; have s14:=HSZ14.out; have s15:=HSZ15.out; omega)) a0_1
   replace a0_2:=Mk.cell hb (by first | exact Or.inl (by have s0:=HSZ0.out; have s1:=HSZ1.out; have s2:=HSZ2.out; have s3:=HSZ3.out; have s4:=HSZ4.out; have s5:=HSZ5.out; have s6:=HSZ6.out; have s7:=HSZ7.out; have s8:=HSZ8.out; have s9:=HSZ9.out; have s10:=HSZ10.out; have s11:=HSZ11.out; have s12:=HSZ12.out; have s13:=HSZ13.out; have s14:=HSZ14.out; have s15:=HSZ15.out; omega) | exact Or.inr (by have s0:=HSZ0.out; have s1:=HSZ1.out; have s2:=HSZ2.out; have s3:=HSZ3.out; have s4:=HSZ4.out; have s5:=HSZ5.out; have s6:=HSZ6.out; have s7:=HSZ7.out; have s8:=HSZ8.out; have s9:=HSZ9.out; have s10:=HSZ10.out; have s11:=HSZ11.out; have s12:=HSZ12.out; have s13:=HSZ13.out; have s14:=HSZ14.out; have s15:=HSZ15.out; omega)) a0_2
   replace a2_0:=Mk.cell hb (by first | exact Or.inl (by have s0:=HSZ0.out; have s1:=HSZ1.out; have s2:=HSZ2.out; have s3:=HSZ3.out; have s4:=HSZ4.out; have s5:=HSZ5.out; have s6:=HSZ6.out; have s7:=HSZ7.out; have s8:=HSZ8.out; have s9:=HSZ9.out; have s10:=HSZ10.out; have s11:=HSZ11.out; have s12:=HSZ12.out; have s13:=HSZ13.out; have s14:=HSZ14.out; have s15:=HSZ15.out; omega) | exact Or.inr (by have s0:=HSZ0.out; have s1:=HSZ1.out; have s2:=HSZ2.out; have s3:=HSZ3.out; have s4:=HSZ4.out; have s5:=HSZ5.out; have s6:=HSZ6.out; have s7:=HSZ7.out; have s8:=HSZ8.out; have s9:=HSZ9.out; have s10:=HSZ10.out; have s11:=HSZ11.out; have s12:=HSZ12.out; have s13:=HSZ13.out; have s14:=HSZ14.out; have s15:=HSZ15.out; omega)) a2_0
   replace a2_1:=Mk.cell hb (by first | exact Or.inl (by have s0:=HSZ0.out; have s1:=HSZ1.out; have s2:=HSZ2.out; have s3:=HSZ3.out; have s4:=HSZ4.out; have s5:=HSZ5.out; have s6:=HSZ6.out; have s7:=HSZ7.out; have s8:=HSZ8.out; have s9:=HSZ9.out; have s10:=HSZ10.out; have s11:=HSZ11.out; have s12:=HSZ12.out; have s13:=HSZ13.out; have s14:=HSZ14.out; have s15:=HSZ15.out; omega) | exact Or.inr (by have s0:=HSZ0.out; have s1:=HSZ1.out; have s2:=HSZ2.out; have s3:=HSZ3.out; have s4:=HSZ4.out; have s5:=HSZ5.out; have s6:=HSZ6.out; have s7:=HSZ7.out; have s8:=HSZ8.out; have s9:=HSZ9.out; have s10:=HSZ10.out; have s11:=HSZ11.out; have s12:=HSZ12.out; have s13:=HSZ13.out; have s14:=HSZ14.out; have s15:=HSZ15.out; omega)) a2_1
   replace a2_2:=Mk.cell hb (by first | exact Or.inl (by have s0:=HSZ0.out; have s1:=HSZ1.out; have s2:=HSZ2.out; have s3:=HSZ3.out; have s4:=HSZ4.out; have s5:=HSZ5.out; have s6:=HSZ6.out; have s7:=HSZ7.out; have s8:=HSZ8.out; have s9:=HSZ9.out; have s10:=HSZ10.out; have s11:=HSZ11.out; have s12:=HSZ12.out; have s13:=HSZ13.out; have s14:=HSZ14.out; have s15:=HSZ15.out; omega) | exact Or.inr (by have s0:=HSZ0.out; have s1:=HSZ1.out; have s2:=HSZ2.out; have s3:=HSZ3.out; have s4:=HSZ4.out; have s5:=HSZ5.out; have s6:=HSZ6.out; have s7:=HSZ7.out; have s8:=HSZ8.out; have s9:=HSZ9.out; have s10:=HSZ10.out; have s11:=HSZ11.out; have s12:=HSZ12.out; have s13:=HSZ13.out; have s14:=HSZ14.out; have s15:=HSZ15.out; omega)) a2_2
   replace a2_3:=Mk.cell hb (by first | exact Or.inl (by have s0:=HSZ0.out; have s1:=HSZ1.out; have s2:=HSZ2.out; have s3:=HSZ3.out; have s4:=HSZ4.out; have s5:=HSZ5.out; have s6:=HSZ6.out; have s7:=HSZ7.out; have s8:=HSZ8.out; have s9:=HSZ9.out; have s10:=HSZ10.out; have s11:=HSZ11.out; have s12:=HSZ12.out; have s13:=HSZ13.out; have s14:=HSZ14.out; have s15:=HSZ15.out; omega) | exact Or.inr (by have s0:=HSZ0.out; have s1:=HSZ1.out; have s2:=HSZ2.out; have s3:=HSZ3.out; have s4:=HSZ4.out; have s5:=HSZ5.out; have s6:=HSZ6.out; have s7:=HSZ7.out; have s8:=HSZ8.out; have s9:=HSZ9.out; have s10:=HSZ10.out; have s11:=HSZ11.out; have s12:=HSZ12.out; have s13:=HSZ13.out; have s14:=HSZ14.out; have s15:=HSZ15.out; omega)) a2_3
   replace bW_0:=Mk.cell hb (by first | exact Or.inl (by have s0:=HSZ0.out; have s1:=HSZ1.out; have s2:=HSZ2.out; have s3:=HSZ3.out; have s4:=HSZ4.out; have s5:=HSZ5.out; have s6:=HSZ6.out; have s7:=HSZ7.out; have s8:=HSZ8.out; have s9:=HSZ9.out; have s10:=HSZ10.out; have s11:=HSZ11.out; have s12:=HSZ12.out; have s13:=HSZ13.out; have s14:=HSZ14.out; have s15:=HSZ15.out; omega) | exact Or.inr (by have s0:=HSZ0.out; have s1:=HSZ1.out; have s2:=HSZ2.out; have s3:=HSZ3.out; have s4:=HSZ4.out; have s5:=HSZ5.out; have s6:=HSZ6.out; have s7:=HSZ7.out; have s8:=HSZ8.out; have s9:=HSZ9.out; have s10:=HSZ10.out; have s11:=HSZ11.out; have s12:=HSZ12.out; have s13:=HSZ13.out; have s14:=HSZ14.out; have s15:=HSZ15.out; omega)) bW_0
   replace bW_1:=Mk.cell hb (by first | exact Or.inl (by have s0:=HSZ0.out; have s1:=HSZ1.out; have s2:=HSZ2.out; have s3:=HSZ3.out; have s4:=HSZ4.out; have s5:=HSZ5.out; have s6:=HSZ6.out; have s7:=HSZ7.out; have s8:=HSZ8.out; have s9:=HSZ9.out; have s10:=HSZ10.out; have s11:=HSZ11.out; have s12:=HSZ12.out; have s13:=HSZ13.out; have s14:=HSZ14.out; have s15:=HSZ15.out; omega) | exact Or.inr (by have s0:=HSZ0.out; have s1:=HSZ1.out; have s2:=HSZ2.out; have s3:=HSZ3.out; have s4:=HSZ4.out; have s5:=HSZ5.out; have s6:=HSZ6.out; have s7:=HSZ7.out; have s8:=HSZ8.out; have s9:=HSZ9.out; have s10:=HSZ10.out; have s11:=HSZ11.out; have s12:=HSZ12.out; have s13:=HSZ13.out; have s14:=HSZ14.out; have s15:=HSZ15.out; omega)) bW_1
   replace bW_2:=Mk.cell hb (by first | exact Or.inl (by have s0:=HSZ0.out; have s1:=HSZ1.out; have s2:=HSZ2.out; have s3:=HSZ3.out; have s4:=HSZ4.out; have s5:=HSZ5.out; have s6:=HSZ6.out; have s7:=HSZ7.out; have s8:=HSZ8.out; have s9:=HSZ9.out; have s10:=HSZ10.out; have s11:=HSZ11.out; have s12:=HSZ12.out; have s13:=HSZ13.out; have s14:=HSZ14.out; have s15:=HSZ15.out; omega) | exact Or.inr (by have s0:=HSZ0.out; have s1:=HSZ1.out; have s2:=HSZ2.out; have s3:=HSZ3.out; have s4:=HSZ4.out; have s5:=HSZ5.out; have s6:=HSZ6.out; have s7:=HSZ7.out; have s8:=HSZ8.out; have s9:=HSZ9.out; have s10:=HSZ10.out; have s11:=HSZ11.out; have s12:=HSZ12.out; have s13:=HSZ13.out; have s14:=HSZ14.out; have s15:=HSZ15.out; omega)) bW_2
   replace c0_0:=Mk.cell hb (by first | exact Or.inl (by have s0:=HSZ0.out; have s1:=HSZ1.out; have s2:=HSZ2.out; have s3:=HSZ3.out; have s4:=HSZ4.out; have s5:=HSZ5.out; have s6:=HSZ6.out; have s7:=HSZ7.out; have s8:=HSZ8.out; have s9:=HSZ9.out; have s10:=HSZ10.out; have s11:=HSZ11.out; have s12:=HSZ12.out; have s13:=HSZ13.out; have s14:=HSZ14.out; have s15:=HSZ15.out; omega) | exact Or.inr (by have s0:=HSZ0.out; have s1:=HSZ1.out; have s2:=HSZ2.out; have s3:=HSZ3.out; have s4:=HSZ4.out; have s5:=HSZ5.out; have s6:=HSZ6.out; have s7:=HSZ7.out; have s8:=HSZ8.out; have s9:=HSZ9.out; have s10:=HSZ10.out; have s11:=HSZ11.out; have s12:=HSZ12.out; have s13:=HSZ13.out; have s14:=HSZ14.out; have s15:=HSZ15.out; omega)) c0_0
   replace c0_1:=Mk.cell hb (by first | exact Or.inl (by have s0:=HSZ0.out; have s1:=HSZ1.out; have s2:=HSZ2.out; have s3:=HSZ3.out; have s4:=HSZ4.out; have s5:=HSZ5.out; have s6:=HSZ6.out; have s7:=HSZ7.out; have s8:=HSZ8.out; have s9:=HSZ9.out; have s10:=HSZ10.out; have s11:=HSZ11.out; have s12:=HSZ12.out; have s13:=HSZ13.out; have s14:=HSZ14.out; have s15:=HSZ15.out; omega) | exact Or.inr (by have s0:=HSZ0.out; have s1:=HSZ1.out; have s2:=HSZ2.out; have s3:=HSZ3.out; have s4:=HSZ4.out; have s5:=HSZ5.out; have s6:=HSZ6.out; have s7:=HSZ7.out; have s8:=HSZ8.out; have s9:=HSZ9.out; have s10:=HSZ10.out; have s11:=HSZ11.out; have s12:=HSZ12.out; have s13:=HSZ13.out; have s14:=HSZ14.out; have s15:=HSZ15.out; omega)) c0_1
   replace c0_2:=Mk.cell hb (by first | exact Or.inl (by have s0:=HSZ0.out; have s1:=HSZ1.out; have s2:=HSZ2.out; have s3:=HSZ3.out; have s4:=HSZ4.out; have s5:=HSZ5.out; have s6:=HSZ6.out; have s7:=HSZ7.out; have s8:=HSZ8.out; have s9:=HSZ9.out; have s10:=HSZ10.out; have s11:=HSZ11.out; have s12:=HSZ12.out; have s13:=HSZ13.out; have s14:=HSZ14.out; have s15:=HSZ15.out; omega) | exact Or.inr (by have s0:=HSZ0.out; have s1:=HSZ1.out; have s2:=HSZ2.out; have s3:=HSZ3.out; have s4:=HSZ4.out; have s5:=HSZ5.out; have s6:=HSZ6.out; have s7:=HSZ7.out; have s8:=HSZ8.out; have s9:=HSZ9.out; have s10:=HSZ10.out; have s11:=HSZ11.out; have s12:=HSZ12.out; have s13:=HSZ13.out; have s14:=HSZ14.out; have s15:=HSZ15.out; omega)) c0_2
   replace bG_0:=Mk.cell hb (by first | exact Or.inl (by have s0:=HSZ0.out; have s1:=HSZ1.out; have s2:=HSZ2.out; have s3:=HSZ3.out; have s4:=HSZ4.out; have s5:=HSZ5.out; have s6:=HSZ6.out; have s7:=HSZ7.out; have s8:=HSZ8.out; have s9:=HSZ9.out; have s10:=HSZ10.out; have s11:=HSZ11.out; have s12:=HSZ12.out; have s13:=HSZ13.out; have s14:=HSZ14.out; have s15:=HSZ15.out; omega) | exact Or.inr (by have s0:=HSZ0.out; have s1:=HSZ1.out; have s2:=HSZ2.out; have s3:=HSZ3.out; have s4:=HSZ4.out; have s5:=HSZ5.out; have s6:=HSZ6.out; have s7:=HSZ7.out; have s8:=HSZ8.out; have s9:=HSZ9.out; have s10:=HSZ10.out; have s11:=HSZ11.out; have s12:=HSZ12.out; have s13:=HSZ13.out; have s14:=HSZ14.out; have s15:=HSZ15.out; omega)) bG_0
   replace bG_1:=Mk.cell hb (by first | exact Or.inl (by have s0:=HSZ0.out; have s1:=HSZ1.out; have s2:=HSZ2.out; have s3:=HSZ3.out; have s4:=HSZ4.out; have s5:=HSZ5.out; have s6:=HSZ6.out; have s7:=HSZ7.out; have s8:=HSZ8.out; have s9:=HSZ9.out; have s10:=HSZ10.out; have s11:=HSZ11.out; have s12:=HSZ12.out; have s13:=HSZ13.out; have s14:=HSZ14.out; have s15:=HSZ15.out; omega) | exact Or.inr (by have s0:=HSZ0.out; have s1:=HSZ1.out; have s2:=HSZ2.out; have s3:=HSZ3.out; have s4:=HSZ4.out; have s5:=HSZ5.out; have s6:=HSZ6.out; have s7:=HSZ7.out; have s8:=HSZ8.out; have s9:=HSZ9.out; have s10:=HSZ10.out; have s11:=HSZ11.out; have s12:=HSZ12.out; have s13:=HSZ13.out; have s14:=HSZ14.out; have s15:=HSZ15.out; omega)) bG_1
   replace bG_2:=Mk.cell hb (by first | exact Or.inl (by have s0:=HSZ0.out; have s1:=HSZ1.out; have s2:=HSZ2.out; have s3:=HSZ3.out; have s4:=HSZ4.out; have s5:=HSZ5.out; have s6:=HSZ6.out; have s7:=HSZ7.out; have s8:=HSZ8.out; have s9:=HSZ9.out; have s10:=HSZ10.out; have s11:=HSZ11.out; have s12:=HSZ12.out; have s13:=HSZ13.out; have s14:=HSZ14.out; have s15:=HSZ15.out; omega) | exact Or.inr (by have s0:=HSZ0.out; have s1:=HSZ1.out; have s2:=HSZ2.out; have s3:=HSZ3.out; have s4:=HSZ4.out; have s5:=HSZ5.out; have s6:=HSZ6.out; have s7:=HSZ7.out; have s8:=HSZ8.out; have s9:=HSZ9.out; have s10:=HSZ10.out; have s11:=HSZ11.out; have s12:=HSZ12.out; have s13:=HSZ13.out; have s14:=HSZ14.out; have s15:=HSZ15.out; omega)) bG_2
   have HF:=Lib.hid (Mk.fresh_of HF.out hb (by have s0:=HSZ0.out; have s1:=HSZ1.out; have s2:=HSZ2.out; have s3:=HSZ3.out; have s4:=HSZ4.out; have s5:=HSZ5.out; have s6:=HSZ6.out; have s7:=HSZ7.out; have s8:=HSZ8.out; have s9:=HSZ9.out; have s10:=HSZ10.out; have s11:=HSZ11.out; have s12:=HSZ12.out; have s13:=HSZ13.out; have s14:=HSZ14.out; have s15:=HSZ15.out; omega))
   replace HRW:=Lib.hid (HRW.out.mk hb (by first | exact Or.inl (by have s0:=HSZ0.out; have s1:=HSZ1.out; have s2:=HSZ2.out; have s3:=HSZ3.out; have s4:=HSZ4.out; have s5:=HSZ5.out; have s6:=HSZ6.out; have s7:=HSZ7.out; have s8:=HSZ8.out; have s9:=HSZ9.out; have s10:=HSZ10.out; have s11:=HSZ11.out; have s12:=HSZ12.out; have s13:=HSZ13.out; have s14:=HSZ14.out; have s15:=HSZ15.out; omega) | exact Or.inr (by have s0:=HSZ0.out; have s1:=HSZ1.out; have s2:=HSZ2.out; have s3:=HSZ3.out; have s4:=HSZ4.out; have s5:=HSZ5.out; have s6:=HSZ6.out; have s7:=HSZ7.out; have s8:=HSZ8.out; have s9:=HSZ9.out; have s10:=HSZ10.out; have s11:=HSZ11.out; have s12:=HSZ12.out; have s13:=HSZ13.out; have s14:=HSZ14.out; have s15:=HSZ15.out; omega)))
   replace HM1:=Lib.hid (HM1.out.mk (by decide) hb)
   replace HRWG:=Lib.hid (hb.row _ _ _ HRWG.out (by decide))
   replace HRG:=Lib.hid (HRG.out.mk hb (by first | exact Or.inl (by have s0:=HSZ0.out; have s1:=HSZ1.out; have s2:=HSZ2.out; have s3:=HSZ3.out; have s4:=HSZ4.out; have s5:=HSZ5.out; have s6:=HSZ6.out; have s7:=HSZ7.out; have s8:=HSZ8.out; have s9:=HSZ9.out; have s10:=HSZ10.out; have s11:=HSZ11.out; have s12:=HSZ12.out; have s13:=HSZ13.out; have s14:=HSZ14.out; have s15:=HSZ15.out; omega) | exact Or.inr (by have s0:=HSZ0.out; have s1:=HSZ1.out; have s2:=HSZ2.out; have s3:=HSZ3.out; have s4:=HSZ4.out; have s5:=HSZ5.out; have s6:=HSZ6.out; have s7:=HSZ7.out; have s8:=HSZ8.out; have s9:=HSZ9.out; have s10:=HSZ10.out; have s11:=HSZ11.out; have s12:=HSZ12.out; have s13:=HSZ13.out; have s14:=HSZ14.out; have s15:=HSZ15.out; omega)))
   clear hb
   go_wp2_with fail
   refine (markFm_m _ (Xx0.heap.size) (w4.heap.size) k0 _ HM1.out (by omega) (by omega)).mono ?_
   rintro e w11 ⟨k1,rfl,hka1,hkb1,hb⟩
   clear HM1
   replace hkb1:k1 ≤ k0 + 8796093022208:=hkb1
   have HSZ16:=Lib.hid (hb.low.size)
   replace a0_0:=Mk.cell hb (by first | exact Or.inl (by have s0:=HSZ0.out; have s1:=HSZ1.out; have s2:=HSZ2.out; have s3:=HSZ3.out; have s4:=HSZ4.out; have s5:=HSZ5.out; have s6:=HSZ6.out; have s7:=HSZ7.out; have s8:=HSZ8.out; have s9:=HSZ9.out; have s10:=HSZ10.out; have s11:=HSZ11.out; have s12:=HSZ12.out; have s13:=HSZ13.out; have s14:=HSZ14.out; have s15:=HSZ15.out; have s16:=HSZ16.out; omega) | exact Or.inr (by have s0:=HSZ0.out; have s1:=HSZ1.out; have s2:=HSZ2.out; have s3:=HSZ3.out; have s4:=HSZ4.out; have s5:=HSZ5.out; have s6:=HSZ6.out; have s7:=HSZ7.out; have s8:=HSZ8.out; have s9:=HSZ9.out; have s10:=HSZ10.out; have s11:=HSZ11.out; have s12:=HSZ12.out; have s13:=HSZ13.out; have s14:=HSZ14.out; have s15:=HSZ15.out; have s16:=HSZ16.out; omega)) a0_0
   replace a0_1:=Mk.cell hb (by first | exact Or.inl (by have s0:=HSZ0.out; have s1:=HSZ1.out; have s2:=HSZ2.out; have s3:=HSZ3.out; have s4:=HSZ4.out; have s5:=HSZ5.out; have s6:=HSZ6.out; have s7:=HSZ7.out; have s8:=HSZ8.out; have s9:=HSZ9.out; have s10:=HSZ10.out; have s11:=HSZ11.out; have s12:=HSZ12.out; have s13:=HSZ13.out; have s14:=HSZ14.out; have s15:=HSZ15.out; have s16:=HSZ16.out; omega) | exact Or.inr (by have s0:=HSZ0.out; have s1:=HSZ1.out; have s2:=HSZ2.out; have s3:=HSZ3.out; have s4:=HSZ4.out; have s5:=HSZ5.out; have s6:=HSZ6.out; have s7:=HSZ7.out; have s8:=HSZ8.out; have s9:=HSZ9.out; have s10:=HSZ10.out; have s11:=HSZ11.out; have s12:=HSZ12.out; have s13:=HSZ13.out; have s14:=HSZ14.out; have s15:=HSZ15.out; have s16:=HSZ16.out; omega)) a0_1
   replace a0_2:=Mk.cell hb (by first | exact Or.inl (by have s0:=HSZ0.out; have s1:=HSZ1.out; have s2:=HSZ2.out; have s3:=HSZ3.out; have s4:=HSZ4.out; have s5:=HSZ5.out; have s6:=HSZ6.out; have s7:=HSZ7.out; have s8:=HSZ8.out; have s9:=HSZ9.out; have s10:=HSZ10.out; have s11:=HSZ11.out; have s12:=HSZ12.out; have s13:=HSZ13.out; have s14:=HSZ14.out; have s15:=HSZ15.out; have s16:=HSZ16.out; omega) | exact Or.inr (by have s0:=HSZ0.out; have s1:=HSZ1.out; have s2:=HSZ2.out; have s3:=HSZ3.out; have s4:=HSZ4.out; have s5:=HSZ5.out; have s6:=HSZ6.out; have s7:=HSZ7.out; have s8:=HSZ8.out; have s9:=HSZ9.out; have s10:=HSZ10.out; have s11:=HSZ11.out; have s12:=HSZ12.out; have s13:=HSZ13.out; have s14:=HSZ14.out; have s15:=HSZ15.out; have s16:=HSZ16.out; omega)) a0_2
   replace a2_0:=Mk.cell hb (by first | exact Or.inl (by have s0:=HSZ0.out; have s1:=HSZ1.out; have s2:=HSZ2.out; have s3:=HSZ3.out; have s4:=HSZ4.out; have s5:=HSZ5.out; have s6:=HSZ6.out; have s7:=HSZ7.out; have s8:=HSZ8.out; have s9:=HSZ9.out; have s10:=HSZ10.out; have s11:=HSZ11.out; have s12:=HSZ12.out; have s13:=HSZ13.out; have s14:=HSZ14.out; have s15:=HSZ15.out; have s16:=HSZ16.out; omega) | exact Or.inr (by have s0:=HSZ0.out; have s1:=HSZ1.out; have s2:=HSZ2.out; have s3:=HSZ3.out; have s4:=HSZ4.out; have s5:=HSZ5.out; have s6:=HSZ6.out; have s7:=HSZ7.out; have s8:=HSZ8.out; have s9:=HSZ9.out; have s10:=HSZ10.out; have s11:=HSZ11.out; have s12:=HSZ12.out; have s13:=HSZ13.out; have s14:=HSZ14.out; have s15:=HSZ15.out; have s16:=HSZ16.out; omega)) a2_0
   replace a2_1:=Mk.cell hb (by first | exact Or.inl (by have s0:=HSZ0.out; have s1:=HSZ1.out; have s2:=HSZ2.out; have s3:=HSZ3.out; have s4:=HSZ4.out; have s5:=HSZ5.out; have s6:=HSZ6.out; have s7:=HSZ7.out; have s8:=HSZ8.out; have s9:=HSZ9.out; have s10:=HSZ10.out; have s11:=HSZ11.out; have s12:=HSZ12.out; have s13:=HSZ13.out; have s14:=HSZ14.out; have s15:=HSZ15.out; have s16:=HSZ16.out; omega) | exact Or.inr (by have s0:=HSZ0.out; have s1:=HSZ1.out; have s2:=HSZ2.out; have s3:=HSZ3.out; have s4:=HSZ4.out; have s5:=HSZ5.out; have s6:=HSZ6.out; have s7:=HSZ7.out; have s8:=HSZ8.out; have s9:=HSZ9.out; have s10:=HSZ10.out; have s11:=HSZ11.out; have s12:=HSZ12.out; have s13:=HSZ13.out; have s14:=HSZ14.out; have s15:=HSZ15.out; have s16:=HSZ16.out; omega)) a2_1
   replace a2_2:=Mk.cell hb (by first | exact Or.inl (by have s0:=HSZ0.out; have s1:=HSZ1.out; have s2:=HSZ2.out; have s3:=HSZ3.out; have s4:=HSZ4.out; have s5:=HSZ5.out; have s6:=HSZ6.out; have s7:=HSZ7.out; have s8:=HSZ8.out; have s9:=HSZ9.out; have s10:=HSZ10.out; have s11:=HSZ11.out; have s12:=HSZ12.out; have s13:=HSZ13.out; have s14:=HSZ14.out; have s15:=HSZ15.out; have s16:=HSZ16.out; omega) | exact Or.inr (by have s0:=HSZ0.out; have s1:=HSZ1.out; have s2:=HSZ2.out; have s3:=HSZ3.out; have s4:=HSZ4.out; have s5:=HSZ5.out; have s6:=HSZ6.out; have s7:=HSZ7.out; have s8:=HSZ8.out; have s9:=HSZ9.out; have s10:=HSZ10.out; have s11:=HSZ11.out; have s12:=HSZ12.out; have s13:=HSZ13.out; have s14:=HSZ14.out; have s15:=HSZ15.out; have s16:=HSZ16.out; omega)) a2_2
   replace a2_3:=Mk.cell hb (by first | exact Or.inl (by have s0:=HSZ0.out; have s1:=HSZ1.out; have s2:=HSZ2.out; have s3:=HSZ3.out; have s4:=HSZ4.out; have s5:=HSZ5.out; have s6:=HSZ6.out; have s7:=HSZ7.out; have s8:=HSZ8.out; have s9:=HSZ9.out; have s10:=HSZ10.out; have s11:=HSZ11.out; have s12:=HSZ12.out; have s13:=HSZ13.out; have s14:=HSZ14.out; have s15:=HSZ15.out; have s16:=HSZ16.out; omega) | exact Or.inr (by have s0:=HSZ0.out; have s1:=HSZ1.out; have s2:=HSZ2.out; have s3:=HSZ3.out; have s4:=HSZ4.out; have s5:=HSZ5.out; have s6:=HSZ6.out; have s7:=HSZ7.out; have s8:=HSZ8.out; have s9:=HSZ9.out; have s10:=HSZ10.out; have s11:=HSZ11.out; have s12:=HSZ12.out; have s13:=HSZ13.out; have s14:=HSZ14.out; have s15:=HSZ15.out; have s16:=HSZ16.out; omega)) a2_3
   replace bW_0:=Mk.cell hb (by first | exact Or.inl (by have s0:=HSZ0.out; have s1:=HSZ1.out; have s2:=HSZ2.out; have s3:=HSZ3.out; have s4:=HSZ4.out; have s5:=HSZ5.out; have s6:=HSZ6.out; have s7:=HSZ7.out; have s8:=HSZ8.out; have s9:=HSZ9.out; have s10:=HSZ10.out; have s11:=HSZ11.out; have s12:=HSZ12.out; have s13:=HSZ13.out; have s14:=HSZ14.out; have s15:=HSZ15.out; have s16:=HSZ16.out; omega) | exact Or.inr (by have s0:=HSZ0.out; have s1:=HSZ1.out; have s2:=HSZ2.out; have s3:=HSZ3.out; have s4:=HSZ4.out; have s5:=HSZ5.out; have s6:=HSZ6.out; have s7:=HSZ7.out; have s8:=HSZ8.out; have s9:=HSZ9.out; have s10:=HSZ10.out; have s11:=HSZ11.out; have s12:=HSZ12.out; have s13:=HSZ13.out; have s14:=HSZ14.out; have s15:=HSZ15.out; have s16:=HSZ16.out; omega)) bW_0
   replace bW_1:=Mk.cell hb (by first | exact Or.inl (by have s0:=HSZ0.out; have s1:=HSZ1.out; have s2:=HSZ2.out; have s3:=HSZ3.out; have s4:=HSZ4.out; have s5:=HSZ5.out; have s6:=HSZ6.out; have s7:=HSZ7.out; have s8:=HSZ8.out; have s9:=HSZ9.out; have s10:=HSZ10.out; have s11:=HSZ11.out; have s12:=HSZ12.out; have s13:=HSZ13.out; have s14:=HSZ14.out; have s15:=HSZ15.out; have s16:=HSZ16.out; omega) | exact Or.inr (by have s0:=HSZ0.out; have s1:=HSZ1.out; have s2:=HSZ2.out; have s3:=HSZ3.out; have s4:=HSZ4.out; have s5:=HSZ5.out; have s6:=HSZ6.out; have s7:=HSZ7.out; have s8:=HSZ8.out; have s9:=HSZ9.out; have s10:=HSZ10.out; have s11:=HSZ11.out; have s12:=HSZ12.out; have s13:=HSZ13.out; have s14:=HSZ14.out; have s15:=HSZ15.out; have s16:=HSZ16.out; omega)) bW_1
   replace bW_2:=Mk.cell hb (by first | exact Or.inl (by have s0:=HSZ0.out; have s1:=HSZ1.out; have s2:=HSZ2.out; have s3:=HSZ3.out; have s4:=HSZ4.out; have s5:=HSZ5.out; have s6:=HSZ6.out; have s7:=HSZ7.out; have s8:=HSZ8.out; have s9:=HSZ9.out; have s10:=HSZ10.out; have s11:=HSZ11.out; have s12:=HSZ12.out; have s13:=HSZ13.out; have s14:=HSZ14.out; have s15:=HSZ15.out; have s16:=HSZ16.out; omega) | exact Or.inr (by have s0:=HSZ0.out; have s1:=HSZ1.out; have s2:=HSZ2.out; have s3:=HSZ3.out; have s4:=HSZ4.out; have s5:=HSZ5.out; have s6:=HSZ6.out; have s7:=HSZ7.out; have s8:=HSZ8.out; have s9:=HSZ9.out; have s10:=HSZ10.out; have s11:=HSZ11.out; have s12:=HSZ12.out; have s13:=HSZ13.out; have s14:=HSZ14.out; have s15:=HSZ15.out; have s16:=HSZ16.out; omega)) bW_2
   replace c0_0:=Mk.cell hb (by first | exact Or.inl (by have s0:=HSZ0.out; have s1:=HSZ1.out; have s2:=HSZ2.out; have s3:=HSZ3.out; have s4:=HSZ4.out; have s5:=HSZ5.out; have s6:=HSZ6.out; have s7:=HSZ7.out; have s8:=HSZ8.out; have s9:=HSZ9.out; have s10:=HSZ10.out; have s11:=HSZ11.out; have s12:=HSZ12.out; have s13:=HSZ13.out; have s14:=HSZ14.out; have s15:=HSZ15.out; have s16:=HSZ16.out; omega) | exact Or.inr (by have s0:=HSZ0.out; have s1:=HSZ1.out; have s2:=HSZ2.out; have s3:=HSZ3.out; have s4:=HSZ4.out; have s5:=HSZ5.out; have s6:=HSZ6.out; have s7:=HSZ7.out; have s8:=HSZ8.out; have s9:=HSZ9.out; have s10:=HSZ10.out; have s11:=HSZ11.out; have s12:=HSZ12.out; have s13:=HSZ13.out; have s14:=HSZ14.out; have s15:=HSZ15.out; have s16:=HSZ16.out; omega)) c0_0
   replace c0_1:=Mk.cell hb (by first | exact Or.inl (by have s0:=HSZ0.out; have s1:=HSZ1.out; have s2:=HSZ2.out; have s3:=HSZ3.out; have s4:=HSZ4.out; have s5:=HSZ5.out; have s6:=HSZ6.out; have s7:=HSZ7.out; have s8:=HSZ8.out; have s9:=HSZ9.out; have s10:=HSZ10.out; have s11:=HSZ11.out; have s12:=HSZ12.out; have s13:=HSZ13.out; have s14:=HSZ14.out; have s15:=HSZ15.out; have s16:=HSZ16.out; omega) | exact Or.inr (by have s0:=HSZ0.out; have s1:=HSZ1.out; have s2:=HSZ2.out; have s3:=HSZ3.out; have s4:=HSZ4.out; have s5:=HSZ5.out; have s6:=HSZ6.out; have s7:=HSZ7.out; have s8:=HSZ8.out; have s9:=HSZ9.out; have s10:=HSZ10.out; have s11:=HSZ11.out; have s12:=HSZ12.out; have s13:=HSZ13.out; have s14:=HSZ14.out; have s15:=HSZ15.out; have s16:=HSZ16.out; omega)) c0_1
   replace c0_2:=Mk.cell hb (by first | exact Or.inl (by have s0:=HSZ0.out; have s1:=HSZ1.out; have s2:=HSZ2.out; have s3:=HSZ3.out; have s4:=HSZ4.out; have s5:=HSZ5.out; have s6:=HSZ6.out; have s7:=HSZ7.out; have s8:=HSZ8.out; have s9:=HSZ9.out; have s10:=HSZ10.out; have s11:=HSZ11.out; have s12:=HSZ12.out; have s13:=HSZ13.out; have s14:=HSZ14.out; have s15:=HSZ15.out; have s16:=HSZ16.out; omega) | exact Or.inr (by have s0:=HSZ0.out; have s1:=HSZ1.out; have s2:=HSZ2.out; have s3:=HSZ3.out; have s4:=HSZ4.out; have s5:=HSZ5.out; have s6:=HSZ6.out; have s7:=HSZ7.out; have s8:=HSZ8.out; have s9:=HSZ9.out; have s10:=HSZ10.out; have s11:=HSZ11.out; have s12:=HSZ12.out; have s13:=HSZ13.out; have s14:=HSZ14.out; have s15:=HSZ15.out; have s16:=HSZ16.out; omega)) c0_2
   replace bG_0:=Mk.cell hb (by first | exact Or.inl (by have s0:=HSZ0.out; have s1:=HSZ1.out; have s2:=HSZ2.out; have s3:=HSZ3.out; have s4:=HSZ4.out; have s5:=HSZ5.out; have s6:=HSZ6.out; have s7:=HSZ7.out; have s8:=HSZ8.out; have s9:=HSZ9.out; have s10:=HSZ10.out; have s11:=HSZ11.out; have s12:=HSZ12.out; have s13:=HSZ13.out; have s14:=HSZ14.out; have s15:=HSZ15.out; have s16:=HSZ16.out; omega) | exact Or.inr (by have s0:=HSZ0.out; have s1:=HSZ1.out; have s2:=HSZ2.out; have s3:=HSZ3.out; have s4:=HSZ4.out; have s5:=HSZ5.out; have s6:=HSZ6.out; have s7:=HSZ7.out; have s8:=HSZ8.out; have s9:=HSZ9.out; have s10:=HSZ10.out; have s11:=HSZ11.out; have s12:=HSZ12.out; have s13:=HSZ13.out; have s14:=HSZ14.out; have s15:=HSZ15.out; have s16:=HSZ16.out; omega)) bG_0
   replace bG_1:=Mk.cell hb (by first | exact Or.inl (by have s0:=HSZ0.out; have s1:=HSZ1.out; have s2:=HSZ2.out; have s3:=HSZ3.out; have s4:=HSZ4.out; have s5:=HSZ5.out; have s6:=HSZ6.out; have s7:=HSZ7.out; have s8:=HSZ8.out; have s9:=HSZ9.out; have s10:=HSZ10.out; have s11:=HSZ11.out; have s12:=HSZ12.out; have s13:=HSZ13.out; have s14:=HSZ14.out; have s15:=HSZ15.out; have s16:=HSZ16.out; omega) | exact Or.inr (by have s0:=HSZ0.out; have s1:=HSZ1.out; have s2:=HSZ2.out; have s3:=HSZ3.out; have s4:=HSZ4.out; have s5:=HSZ5.out; have s6:=HSZ6.out; have s7:=HSZ7.out; have s8:=HSZ8.out; have s9:=HSZ9.out; have s10:=HSZ10.out; have s11:=HSZ11.out; have s12:=HSZ12.out; have s13:=HSZ13.out; have s14:=HSZ14.out; have s15:=HSZ15.out; have s16:=HSZ16.out; omega)) bG_1
   replace bG_2:=Mk.cell hb (by first | exact Or.inl (by have s0:=HSZ0.out; have s1:=HSZ1.out; have s2:=HSZ2.out; have s3:=HSZ3.out; have s4:=HSZ4.out; have s5:=HSZ5.out; have s6:=HSZ6.out; have s7:=HSZ7.out; have s8:=HSZ8.out; have s9:=HSZ9.out; have s10:=HSZ10.out; have s11:=HSZ11.out; have s12:=HSZ12.out; have s13:=HSZ13.out; have s14:=HSZ14.out; have s15:=HSZ15.out; have s16:=HSZ16.out; omega) | exact Or.inr (by have s0:=HSZ0.out; have s1:=HSZ1.out; have s2:=HSZ2.out; have s3:=HSZ3.out; have s4:=HSZ4.out; have s5:=HSZ5.out; have s6:=HSZ6.out; have s7:=HSZ7.out; have s8:=HSZ8.out; have s9:=HSZ9.out; have s10:=HSZ10.out; have s11:=HSZ11.out; have s12:=HSZ12.out; have s13:=HSZ13.out; have s14:=HSZ14.out; have s15:=HSZ15.out; have s16:=HSZ16.out; omega)) bG_2
   have HF:=Lib.hid (Mk.fresh_of HF.out hb (by have s0:=HSZ0.out; have s1:=HSZ1.out; have s2:=HSZ2.out; have s3:=HSZ3.out; have s4:=HSZ4.out; have s5:=HSZ5.out; have s6:=HSZ6.out; have s7:=HSZ7.out; have s8:=HSZ8.out; have s9:=HSZ9.out; have s10:=HSZ10.out; have s11:=HSZ11.out; have s12:=HSZ12.out; have s13:=HSZ13.out; have s14:=HSZ14.out; have s15:=HSZ15.out; have s16:=HSZ16.out; omega))
   replace HRW:=Lib.hid (HRW.out.mk hb (by first | exact Or.inl (by have s0:=HSZ0.out; have s1:=HSZ1.out; have s2:=HSZ2.out; have s3:=HSZ3.out; have s4:=HSZ4.out; have s5:=HSZ5.out; have s6:=HSZ6.out; have s7:=HSZ7.out; have s8:=HSZ8.out; have s9:=HSZ9.out; have s10:=HSZ10.out; have s11:=HSZ11.out; have s12:=HSZ12.out; have s13:=HSZ13.out; have s14:=HSZ14.out; have s15:=HSZ15.out; have s16:=HSZ16.out; omega) | exact Or.inr (by have s0:=HSZ0.out; have s1:=HSZ1.out; have s2:=HSZ2.out; have s3:=HSZ3.out; have s4:=HSZ4.out; have s5:=HSZ5.out; have s6:=HSZ6.out; have s7:=HSZ7.out; have s8:=HSZ8.out; have s9:=HSZ9.out; have s10:=HSZ10.out; have s11:=HSZ11.out; have s12:=HSZ12.out; have s13:=HSZ13.out; have s14:=HSZ14.out; have s15:=HSZ15.out; have s16:=HSZ16.out; omega)))
   replace HRWG:=Lib.hid (hb.row _ _ _ HRWG.out (by decide))
   replace HRG:=Lib.hid (HRG.out.mk hb (by first | exact Or.inl (by have s0:=HSZ0.out; have s1:=HSZ1.out; have s2:=HSZ2.out; have s3:=HSZ3.out; have s4:=HSZ4.out; have s5:=HSZ5.out; have s6:=HSZ6.out; have s7:=HSZ7.out; have s8:=HSZ8.out; have s9:=HSZ9.out; have s10:=HSZ10.out; have s11:=HSZ11.out; have s12:=HSZ12.out; have s13:=HSZ13.out; have s14:=HSZ14.out; have s15:=HSZ15.out; have s16:=HSZ16.out; omega) | exact Or.inr (by have s0:=HSZ0.out; have s1:=HSZ1.out; have s2:=HSZ2.out; have s3:=HSZ3.out; have s4:=HSZ4.out; have s5:=HSZ5.out; have s6:=HSZ6.out; have s7:=HSZ7.out; have s8:=HSZ8.out; have s9:=HSZ9.out; have s10:=HSZ10.out; have s11:=HSZ11.out; have s12:=HSZ12.out; have s13:=HSZ13.out; have s14:=HSZ14.out; have s15:=HSZ15.out; have s16:=HSZ16.out; omega)))
   clear hb
   clear c0_0 c0_1 c0_2
   have hkn:(k1 < 0) = False:=eq_false (by omega)
   go_wp2_with fail
   refine (eqPl_r _ _ _ _ _ _ r0 _ (HRG.out) (HRW.out) HSM.out).mono ?_
   rintro e w12 ⟨rfl,hb⟩
   have HSZ17:=Lib.hid (hb.size)
   replace a0_0:=fkeep hb a0_0
   replace a0_1:=fkeep hb a0_1
   replace a0_2:=fkeep hb a0_2
   replace a2_0:=fkeep hb a2_0
   replace a2_1:=fkeep hb a2_1
   replace a2_2:=fkeep hb a2_2
   replace a2_3:=fkeep hb a2_3
   replace bW_0:=fkeep hb bW_0
   replace bW_1:=fkeep hb bW_1
   replace bW_2:=fkeep hb bW_2
   replace bG_0:=fkeep hb bG_0
   replace bG_1:=fkeep hb bG_1
   replace bG_2:=fkeep hb bG_2
   have HF:=Lib.hid (fstep HF.out hb)
   replace HRW:=Lib.hid (HRW.out.keep hb)
   replace HRWG:=Lib.hid (HRWG.out.keep hb)
   replace HRG:=Lib.hid (HRG.out.keep hb)
   clear hb
   clear hkn hka0 hkb0 hka1 hkb1
   go_wp2_with fail
   refine (markPl_r _ (w4.heap.size) r0 1 _ HRG.out.own (by have s0:=HSZ0.out; have s1:=HSZ1.out; have s2:=HSZ2.out; have s3:=HSZ3.out; have s4:=HSZ4.out; have s5:=HSZ5.out; have s6:=HSZ6.out; have s7:=HSZ7.out; have s8:=HSZ8.out; have s9:=HSZ9.out; have s10:=HSZ10.out; have s11:=HSZ11.out; have s12:=HSZ12.out; have s13:=HSZ13.out; have s14:=HSZ14.out; have s15:=HSZ15.out; have s16:=HSZ16.out; have s17:=HSZ17.out; omega) HSM.out (by omega) (by omega)).mono ?_
   rintro e w13 ⟨N,rfl,ho,hb,hkk⟩
   have HG:=Lib.hid ho
   clear ho HRG
   have HSZ18:=Lib.hid (hb.size)
   replace a0_0:=bkeep hb (by have s0:=HSZ0.out; have s1:=HSZ1.out; have s2:=HSZ2.out; have s3:=HSZ3.out; have s4:=HSZ4.out; have s5:=HSZ5.out; have s6:=HSZ6.out; have s7:=HSZ7.out; have s8:=HSZ8.out; have s9:=HSZ9.out; have s10:=HSZ10.out; have s11:=HSZ11.out; have s12:=HSZ12.out; have s13:=HSZ13.out; have s14:=HSZ14.out; have s15:=HSZ15.out; have s16:=HSZ16.out; have s17:=HSZ17.out; have s18:=HSZ18.out; omega) a0_0
   replace a0_1:=bkeep hb (by have s0:=HSZ0.out; have s1:=HSZ1.out; have s2:=HSZ2.out; have s3:=HSZ3.out; have s4:=HSZ4.out; have s5:=HSZ5.out; have s6:=HSZ6.out; have s7:=HSZ7.out; have s8:=HSZ8.out; have s9:=HSZ9.out; have s10:=HSZ10.out; have s11:=HSZ11.out; have s12:=HSZ12.out; have s13:=HSZ13.out; have s14:=HSZ14.out; have s15:=HSZ15.out; have s16:=HSZ16.out; have s17:=HSZ17.out; have s18:=HSZ18.out; omega) a0_1
   replace a0_2:=bkeep hb (by have s0:=HSZ0.out; have s1:=HSZ1.out; have s2:=HSZ2.out; have s3:=HSZ3.out; have s4:=HSZ4.out; have s5:=HSZ5.out; have s6:=HSZ6.out; have s7:=HSZ7.out; have s8:=HSZ8.out; have s9:=HSZ9.out; have s10:=HSZ10.out; have s11:=HSZ11.out; have s12:=HSZ12.out; have s13:=HSZ13.out; have s14:=HSZ14.out; have s15:=HSZ15.out; have s16:=HSZ16.out; have s17:=HSZ17.out; have s18:=HSZ18.out; omega) a0_2
   replace a2_0:=bkeep hb (by have s0:=HSZ0.out; have s1:=HSZ1.out; have s2:=HSZ2.out; have s3:=HSZ3.out; have s4:=HSZ4.out; have s5:=HSZ5.out; have s6:=HSZ6.out; have s7:=HSZ7.out; have s8:=HSZ8.out; have s9:=HSZ9.out; have s10:=HSZ10.out; have s11:=HSZ11.out; have s12:=HSZ12.out; have s13:=HSZ13.out; have s14:=HSZ14.out; have s15:=HSZ15.out; have s16:=HSZ16.out; have s17:=HSZ17.out; have s18:=HSZ18.out; omega) a2_0
   replace a2_1:=bkeep hb (by have s0:=HSZ0.out; have s1:=HSZ1.out; have s2:=HSZ2.out; have s3:=HSZ3.out; have s4:=HSZ4.out; have s5:=HSZ5.out; have s6:=HSZ6.out; have s7:=HSZ7.out; have s8:=HSZ8.out; have s9:=HSZ9.out; have s10:=HSZ10.out; have s11:=HSZ11.out; have s12:=HSZ12.out; have s13:=HSZ13.out; have s14:=HSZ14.out; have s15:=HSZ15.out; have s16:=HSZ16.out; have s17:=HSZ17.out; have s18:=HSZ18.out; omega) a2_1
   replace a2_2:=bkeep hb (by have s0:=HSZ0.out; have s1:=HSZ1.out; have s2:=HSZ2.out; have s3:=HSZ3.out; have s4:=HSZ4.out; have s5:=HSZ5.out; have s6:=HSZ6.out; have s7:=HSZ7.out; have s8:=HSZ8.out; have s9:=HSZ9.out; have s10:=HSZ10.out; have s11:=HSZ11.out; have s12:=HSZ12.out; have s13:=HSZ13.out; have s14:=HSZ14.out; have s15:=HSZ15.out; have s16:=HSZ16.out; have s17:=HSZ17.out; have s18:=HSZ18.out; omega) a2_2
   replace a2_3:=bkeep hb (by have s0:=HSZ0.out; have s1:=HSZ1.out; have s2:=HSZ2.out; have s3:=HSZ3.out; have s4:=HSZ4.out; have s5:=HSZ5.out; have s6:=HSZ6.out; have s7:=HSZ7.out; have s8:=HSZ8.out; have s9:=HSZ9.out; have s10:=HSZ10.out; have s11:=HSZ11.out; have s12:=HSZ12.out; have s13:=HSZ13.out; have s14:=HSZ14.out; have s15:=HSZ15.out; have s16:=HSZ16.out; have s17:=HSZ17.out; have s18:=HSZ18.out; omega) a2_3
   replace bW_0:=bkeep hb (by have s0:=HSZ0.out; have s1:=HSZ1.out; have s2:=HSZ2.out; have s3:=HSZ3.out; have s4:=HSZ4.out; have s5:=HSZ5.out; have s6:=HSZ6.out; have s7:=HSZ7.out; have s8:=HSZ8.out; have s9:=HSZ9.out; have s10:=HSZ10.out; have s11:=HSZ11.out; have s12:=HSZ12.out; have s13:=HSZ13.out; have s14:=HSZ14.out; have s15:=HSZ15.out; have s16:=HSZ16.out; have s17:=HSZ17.out; have s18:=HSZ18.out; omega) bW_0
   replace bW_1:=bkeep hb (by have s0:=HSZ0.out; have s1:=HSZ1.out; have s2:=HSZ2.out; have s3:=HSZ3.out; have s4:=HSZ4.out; have s5:=HSZ5.out; have s6:=HSZ6.out; have s7:=HSZ7.out; have s8:=HSZ8.out; have s9:=HSZ9.out; have s10:=HSZ10.out; have s11:=HSZ11.out; have s12:=HSZ12.out; have s13:=HSZ13.out; have s14:=HSZ14.out; have s15:=HSZ15.out; have s16:=HSZ16.out; have s17:=HSZ17.out; have s18:=HSZ18.out; omega) bW_1
   replace bW_2:=bkeep hb (by have s0:=HSZ0.out; have s1:=HSZ1.out; have s2:=HSZ2.out; have s3:=HSZ3.out; have s4:=HSZ4.out; have s5:=HSZ5.out; have s6:=HSZ6.out; have s7:=HSZ7.out; have s8:=HSZ8.out; have s9:=HSZ9.out; have s10:=HSZ10.out; have s11:=HSZ11.out; have s12:=HSZ12.out; have s13:=HSZ13.out; have s14:=HSZ14.out; have s15:=HSZ15.out; have s16:=HSZ16.out; have s17:=HSZ17.out; have s18:=HSZ18.out; omega) bW_2
   replace bG_0:=(hkk _ _ _ HRWG.out (by decide) (by decide) (by decide) (by decide) ).cell (i:=0) rfl
   replace bG_1:=(hkk _ _ _ HRWG.out (by decide) (by decide) (by decide) (by decide) ).cell (i:=1) rfl
   replace bG_2:=(hkk _ _ _ HRWG.out (by decide) (by decide) (by decide) (by decide) ).cell (i:=2) rfl
   have HF:=Lib.hid (HF.out.trans (hb.mono (by have s0:=HSZ0.out; have s1:=HSZ1.out; have s2:=HSZ2.out; have s3:=HSZ3.out; have s4:=HSZ4.out; have s5:=HSZ5.out; have s6:=HSZ6.out; have s7:=HSZ7.out; have s8:=HSZ8.out; have s9:=HSZ9.out; have s10:=HSZ10.out; have s11:=HSZ11.out; have s12:=HSZ12.out; have s13:=HSZ13.out; have s14:=HSZ14.out; have s15:=HSZ15.out; have s16:=HSZ16.out; have s17:=HSZ17.out; have s18:=HSZ18.out; omega)))
   replace HRW:=Lib.hid (HRW.out.below hb (by have s0:=HSZ0.out; have s1:=HSZ1.out; have s2:=HSZ2.out; have s3:=HSZ3.out; have s4:=HSZ4.out; have s5:=HSZ5.out; have s6:=HSZ6.out; have s7:=HSZ7.out; have s8:=HSZ8.out; have s9:=HSZ9.out; have s10:=HSZ10.out; have s11:=HSZ11.out; have s12:=HSZ12.out; have s13:=HSZ13.out; have s14:=HSZ14.out; have s15:=HSZ15.out; have s16:=HSZ16.out; have s17:=HSZ17.out; have s18:=HSZ18.out; omega))
   replace HRWG:=Lib.hid (hkk _ _ _ HRWG.out (by decide) (by decide) (by decide) (by decide) )
   clear hb
   clear hkk HRWG
   go_wp2_with fail
   refine (heldPl_o _ _ r0 1 _ _ HG.out HSM.out (by omega) (by omega)).mono ?_
   rintro e w14 ⟨rfl,hb⟩
   have HSZ19:=Lib.hid (hb.size)
   replace a0_0:=fkeep hb a0_0
   replace a0_1:=fkeep hb a0_1
   replace a0_2:=fkeep hb a0_2
   replace a2_0:=fkeep hb a2_0
   replace a2_1:=fkeep hb a2_1
   replace a2_2:=fkeep hb a2_2
   replace a2_3:=fkeep hb a2_3
   replace bW_0:=fkeep hb bW_0
   replace bW_1:=fkeep hb bW_1
   replace bW_2:=fkeep hb bW_2
   replace bG_0:=fkeep hb bG_0
   replace bG_1:=fkeep hb bG_1
   replace bG_2:=fkeep hb bG_2
   have HF:=Lib.hid (fstep HF.out hb)
   replace HRW:=Lib.hid (HRW.out.keep hb)
   replace HG:=Lib.hid (HG.out.keep hb)
   clear hb
   go_upto_region 31 with fail
   go_cut [21,22,23] (fun z21 z22 z23 wx=>∃ (gb:Nat) (qH:Option Addr) (mH:Nat) (cH:Nat) (fH:Option Addr) (kH:Nat) (dH:Nat) (tH:Option Addr) (iH:Nat) (eH:Nat),z21 = .pointer (some ⟨gb,0,none⟩)∧z22 = .int .i64 r1∧z23 = .bool r2∧RowAt wx gb 38 [.slice qH mH cH, .slice fH kH dH, .slice tH iH eH]∧PlHeld wx (0) wx.heap.size (.agg #[.slice qH mH cH, .slice fH kH dH, .slice tH iH eH]) r0∧Fresh w14 wx∧w14.heap.size ≤ gb)
   case first =>
    refine hd_start (n:=15) (S:=fun wz=>wz.cell? ⟨w.heap.size,0,none⟩ = some (.slice q0a m0a c0a)∧wz.cell? ⟨w.heap.size,1,none⟩ = some (.slice p0a k0a d0a)∧wz.cell? ⟨w.heap.size,2,none⟩ = some (.slice r0a i0a e0a)∧wz.cell? ⟨w.heap.size + 1,0,none⟩ = some (.int .i64 g2a)∧wz.cell? ⟨w.heap.size + 1,1,none⟩ = some (.int .i64 h2a)∧wz.cell? ⟨w.heap.size + 1,2,none⟩ = some (.int .i64 l2a)∧wz.cell? ⟨w.heap.size + 1,3,none⟩ = some (.int .i64 j2a)) (by kernel_rfl) (by kernel_rfl) ⟨fkeep (fdrew (frefl _)) a0_0,fkeep (fdrew (frefl _)) a0_1,fkeep (fdrew (frefl _)) a0_2,fkeep (fdrew (frefl _)) a2_0,fkeep (fdrew (frefl _)) a2_1,fkeep (fdrew (frefl _)) a2_2,fkeep (fdrew (frefl _)) a2_3⟩ (fun hHeld=>?_)
    obtain ⟨Wz,hWz⟩:∃ W,W = w14.drew:=⟨_,rfl⟩
    rw [← hWz] at hHeld ⊢
    have f0:Fresh w14 Wz:=by rw [hWz]; exact fdrew (frefl _)
    clear hWz
    refine hd_tk (i:=0) (v:=?_) rfl ?_ ?_
    rotate_left
    ·(intro w hSw; (try dsimp only at hSw); go_simp; first | done | with_reducible rfl)
    try simp only [PU]
    refine hd_tk (i:=2) (v:=?_) rfl ?_ ?_
    rotate_left
    ·(intro w hSw; (try dsimp only at hSw); go_simp; first | done | with_reducible rfl)
    try simp only [PU]
    refine hd_tk (i:=4) (v:=?_) rfl ?_ ?_
    rotate_left
    ·(intro w hSw; (try dsimp only at hSw); go_simp; first | done | with_reducible rfl)
    try simp only [PU]
    refine hd_tk (i:=6) (v:=?_) rfl ?_ ?_
    rotate_left
    ·(intro w hSw; (try dsimp only at hSw); go_simp; first | done | with_reducible rfl)
    try simp only [PU]
    refine hd_ready (rs:=[1,12]) (by kernel_rfl) (by simp) ?_
    refine hd_cons (i:=1) rfl (by kernel_rfl) (fun K hK=>?_) ?_
    ·skip
     go_simp
     go_at_call 21
     refine (toPlan_k _ x0 _ (HI0.out.keep (fstep HF.out f0))).mono ?_
     rintro e wk1 ⟨u0,rfl,hy0,hb0⟩
     have fk1:=fstep f0 hb0
     go_wp2_with fail
     refine hK.out _ _ ?_ (fun hHeld=>?_)
     ·exact ⟨fkeep fk1 a0_0,fkeep fk1 a0_1,fkeep fk1 a0_2,fkeep fk1 a2_0,fkeep fk1 a2_1,fkeep fk1 a2_2,fkeep fk1 a2_3⟩
     clear hK K
     try simp only [PU]
     refine hd_ready (rs:=[3,12]) (by kernel_rfl) (by simp) ?_
     refine hd_cons (i:=3) rfl (by kernel_rfl) (fun K hK=>?_) ?_
     ·skip
      go_simp
      go_at_call 22
      refine (toFm_k _ x1 _ (HI1.out.keep (fstep HF.out fk1))).mono ?_
      rintro e wk2 ⟨u1,rfl,hy1,hb1⟩
      have fk2:=fstep fk1 hb1
      go_wp2_with fail
      refine hK.out _ _ ?_ (fun hHeld=>?_)
      ·exact ⟨fkeep fk2 a0_0,fkeep fk2 a0_1,fkeep fk2 a0_2,fkeep fk2 a2_0,fkeep fk2 a2_1,fkeep fk2 a2_2,fkeep fk2 a2_3⟩
      clear hK K
      try simp only [PU]
      refine hd_ready (rs:=[5,12]) (by kernel_rfl) (by simp) ?_
      refine hd_cons (i:=5) rfl (by kernel_rfl) (fun K hK=>?_) ?_
      ·skip
       go_simp
       go_at_call 23
       refine (toDemand_any g2a h2a l2a j2a _).mono ?_
       rintro e wk3 ⟨rfl,hb2⟩
       have fk3:=fstep fk2 hb2
       go_wp2_with fail
       refine hK.out _ _ ?_ (fun hHeld=>?_)
       ·exact ⟨fkeep fk3 a0_0,fkeep fk3 a0_1,fkeep fk3 a0_2,fkeep fk3 a2_0,fkeep fk3 a2_1,fkeep fk3 a2_2,fkeep fk3 a2_3⟩
       clear hK K
       try simp only [PU]
       refine hd_ready (rs:=[7,12]) (by kernel_rfl) (by simp) ?_
       refine hd_cons (i:=7) rfl (by kernel_rfl) (fun K hK=>?_) ?_
       ·skip
        go_simp
        go_at_call 31
        have hcc:=implServeDemand_l _ x0 _ x1 ⟨g2a,h2a,l2a,j2a⟩ x3 _ ((hy0.keep hb1).keep hb2) (hy1.keep hb2)
        rw [← HR0.out,← HR1.out,← HR2.out] at hcc
        refine hcc.mono ?_
        clear hcc
        rintro e wk4 ⟨vH,rfl,how,hbr⟩
        obtain ⟨qH,mH,cH,fH,kH,dH,tH,iH,eH,hvv⟩:=how.shape
        subst hvv
        have fk4:=fstep fk3 hbr
        go_wp2_with fail
        refine hK.out _ _ ?_ (fun hHeld=>?_)
        ·exact ⟨fkeep fk4 a0_0,fkeep fk4 a0_1,fkeep fk4 a0_2,fkeep fk4 a2_0,fkeep fk4 a2_1,fkeep fk4 a2_2,fkeep fk4 a2_3⟩
        clear hK K
        try simp only [PU]
        refine hd_tk (i:=8) (v:=?_) rfl ?_ ?_
        rotate_left
        ·(intro w hSw; (try dsimp only at hSw); go_simp; first | done | with_reducible rfl)
        try simp only [PU]
        refine hd_tk (i:=9) (v:=?_) rfl ?_ ?_
        rotate_left
        ·(intro w hSw; (try dsimp only at hSw); go_simp; first | done | with_reducible rfl)
        try simp only [PU]
        refine hd_tk (i:=10) (v:=?_) rfl ?_ ?_
        rotate_left
        ·(intro w hSw; (try dsimp only at hSw); go_simp; first | done | with_reducible rfl)
        try simp only [PU]
        refine hd_tk (i:=11) (v:=?_) rfl ?_ ?_
        rotate_left
        ·(intro w hSw; (try dsimp only at hSw); go_simp; first | done | with_reducible rfl)
        try simp only [PU]
        refine hd_one (i:=12) rfl (by kernel_rfl) (by kernel_rfl) (fun K hK=>?_)
        go_simp
        obtain ⟨wk5,hwa⟩:∃ W,W = wk4.alloc (.cells #[.slice none 0 0, .slice none 0 0, .slice none 0 0] 38):=⟨_,rfl⟩
        rw [← hwa]
        have hba:Fresh wk4 wk5:=by rw [hwa]; exact fnew (frefl _) _
        have ra:RowAt wk5 wk4.heap.size 38 [.slice none 0 0, .slice none 0 0, .slice none 0 0]:=by rw [hwa]; exact RowAt.new _ _ _
        have hga:w14.heap.size ≤ wk4.heap.size:=fk4.size
        have fk5:=fstep fk4 hba
        clear hwa
        refine hK.out _ _ ?_ (fun hHeld=>?_)
        ·exact ⟨fkeep fk5 a0_0,fkeep fk5 a0_1,fkeep fk5 a0_2,fkeep fk5 a2_0,fkeep fk5 a2_1,fkeep fk5 a2_2,fkeep fk5 a2_3⟩
        clear hK K
        try simp only [PU]
        have rb:=ra
        have z0:=rb.cell (i:=0) rfl
        have z1:=rb.cell (i:=1) rfl
        have z2:=rb.cell (i:=2) rfl
        have u0:=rb.frozen 0
        have u1:=rb.frozen 1
        have u2:=rb.frozen 2
        have fs:=(fset (fset (fset fk5 hga (o:=0) (.slice qH mH cH)) hga (o:=1) (.slice fH kH dH)) hga (o:=2) (.slice tH iH eH))
        refine hd_one (i:=13) rfl (by kernel_rfl) (by kernel_rfl) (fun K hK=>?_)
        (go_simp)
        refine hK.out _ _ ?_ (fun hHeld=>?_)
        ·exact ⟨fkeep fs a0_0,fkeep fs a0_1,fkeep fs a0_2,fkeep fs a2_0,fkeep fs a2_1,fkeep fs a2_2,fkeep fs a2_3⟩
        clear hK K
        try simp only [PU]
        refine hd_tk (i:=14) (v:=?_) rfl ?_ ?_
        rotate_left
        ·(intro w hSw; (try dsimp only at hSw); go_simp; first | done | with_reducible rfl)
        try simp only [PU]
        refine hd_done (by kernel_rfl) ?_
        clear hHeld
        simp only [List.drop_succ_cons,List.drop_zero]
        go_wp2_with fail
        go_meet
        have hrow:=(((rb.set 0 (.slice qH mH cH)).set 1 (.slice fH kH dH)).set 2 (.slice tH iH eH))
        exact ⟨_,_,_,_,_,_,_,_,_,_,rfl,rfl,rfl,hrow,((how.keep hba).box rb).held.wide (Nat.zero_le _) (Nat.le_refl _),fs,hga⟩
       ·refine hd_cons (i:=12) rfl (by kernel_rfl) (fun K hK=>?_) hd_nil
        go_simp
        obtain ⟨wk6,hwa⟩:∃ W,W = wk3.alloc (.cells #[.slice none 0 0, .slice none 0 0, .slice none 0 0] 38):=⟨_,rfl⟩
        rw [← hwa]
        have hba:Fresh wk3 wk6:=by rw [hwa]; exact fnew (frefl _) _
        have ra:RowAt wk6 wk3.heap.size 38 [.slice none 0 0, .slice none 0 0, .slice none 0 0]:=by rw [hwa]; exact RowAt.new _ _ _
        have hga:w14.heap.size ≤ wk3.heap.size:=fk3.size
        have fk6:=fstep fk3 hba
        clear hwa
        refine hK.out _ _ ?_ (fun hHeld=>?_)
        ·exact ⟨fkeep fk6 a0_0,fkeep fk6 a0_1,fkeep fk6 a0_2,fkeep fk6 a2_0,fkeep fk6 a2_1,fkeep fk6 a2_2,fkeep fk6 a2_3⟩
        clear hK K
        try simp only [PU]
        refine hd_one (i:=7) rfl (by kernel_rfl) (by kernel_rfl) (fun K hK=>?_)
        go_simp
        go_at_call 31
        have hcc:=implServeDemand_l _ x0 _ x1 ⟨g2a,h2a,l2a,j2a⟩ x3 _ (((hy0.keep hb1).keep hb2).keep hba) ((hy1.keep hb2).keep hba)
        rw [← HR0.out,← HR1.out,← HR2.out] at hcc
        refine hcc.mono ?_
        clear hcc
        rintro e wk7 ⟨vH,rfl,how,hbr⟩
        obtain ⟨qH,mH,cH,fH,kH,dH,tH,iH,eH,hvv⟩:=how.shape
        subst hvv
        have fk7:=fstep fk6 hbr
        go_wp2_with fail
        refine hK.out _ _ ?_ (fun hHeld=>?_)
        ·exact ⟨fkeep fk7 a0_0,fkeep fk7 a0_1,fkeep fk7 a0_2,fkeep fk7 a2_0,fkeep fk7 a2_1,fkeep fk7 a2_2,fkeep fk7 a2_3⟩
        clear hK K
        try simp only [PU]
        refine hd_tk (i:=8) (v:=?_) rfl ?_ ?_
        rotate_left
        ·(intro w hSw; (try dsimp only at hSw); go_simp; first | done | with_reducible rfl)
        try simp only [PU]
        refine hd_tk (i:=9) (v:=?_) rfl ?_ ?_
        rotate_left
        ·(intro w hSw; (try dsimp only at hSw); go_simp; first | done | with_reducible rfl)
        try simp only [PU]
        refine hd_tk (i:=10) (v:=?_) rfl ?_ ?_
        rotate_left
        ·(intro w hSw; (try dsimp only at hSw); go_simp; first | done | with_reducible rfl)
        try simp only [PU]
        refine hd_tk (i:=11) (v:=?_) rfl ?_ ?_
        rotate_left
        ·(intro w hSw; (try dsimp only at hSw); go_simp; first | done | with_reducible rfl)
        try simp only [PU]
        have rb:=(ra.keep hbr)
        have z0:=rb.cell (i:=0) rfl
        have z1:=rb.cell (i:=1) rfl
        have z2:=rb.cell (i:=2) rfl
        have u0:=rb.frozen 0
        have u1:=rb.frozen 1
        have u2:=rb.frozen 2
        have fs:=(fset (fset (fset fk7 hga (o:=0) (.slice qH mH cH)) hga (o:=1) (.slice fH kH dH)) hga (o:=2) (.slice tH iH eH))
        refine hd_one (i:=13) rfl (by kernel_rfl) (by kernel_rfl) (fun K hK=>?_)
        (go_simp)
        refine hK.out _ _ ?_ (fun hHeld=>?_)
        ·exact ⟨fkeep fs a0_0,fkeep fs a0_1,fkeep fs a0_2,fkeep fs a2_0,fkeep fs a2_1,fkeep fs a2_2,fkeep fs a2_3⟩
        clear hK K
        try simp only [PU]
        refine hd_tk (i:=14) (v:=?_) rfl ?_ ?_
        rotate_left
        ·(intro w hSw; (try dsimp only at hSw); go_simp; first | done | with_reducible rfl)
        try simp only [PU]
        refine hd_done (by kernel_rfl) ?_
        clear hHeld
        simp only [List.drop_succ_cons,List.drop_zero]
        go_wp2_with fail
        go_meet
        have hrow:=(((rb.set 0 (.slice qH mH cH)).set 1 (.slice fH kH dH)).set 2 (.slice tH iH eH))
        exact ⟨_,_,_,_,_,_,_,_,_,_,rfl,rfl,rfl,hrow,(how.box rb).held.wide (Nat.zero_le _) (Nat.le_refl _),fs,hga⟩
      ·refine hd_cons (i:=12) rfl (by kernel_rfl) (fun K hK=>?_) hd_nil
       go_simp
       obtain ⟨wk8,hwa⟩:∃ W,W = wk2.alloc (.cells #[.slice none 0 0, .slice none 0 0, .slice none 0 0] 38):=⟨_,rfl⟩
       rw [← hwa]
       have hba:Fresh wk2 wk8:=by rw [hwa]; exact fnew (frefl _) _
       have ra:RowAt wk8 wk2.heap.size 38 [.slice none 0 0, .slice none 0 0, .slice none 0 0]:=by rw [hwa]; exact RowAt.new _ _ _
       have hga:w14.heap.size ≤ wk2.heap.size:=fk2.size
       have fk8:=fstep fk2 hba
       clear hwa
       refine hK.out _ _ ?_ (fun hHeld=>?_)
       ·exact ⟨fkeep fk8 a0_0,fkeep fk8 a0_1,fkeep fk8 a0_2,fkeep fk8 a2_0,fkeep fk8 a2_1,fkeep fk8 a2_2,fkeep fk8 a2_3⟩
       clear hK K
       try simp only [PU]
       refine hd_one (i:=5) rfl (by kernel_rfl) (by kernel_rfl) (fun K hK=>?_)
       go_simp
       go_at_call 23
       refine (toDemand_any g2a h2a l2a j2a _).mono ?_
       rintro e wk9 ⟨rfl,hb2⟩
       have fk9:=fstep fk8 hb2
       go_wp2_with fail
       refine hK.out _ _ ?_ (fun hHeld=>?_)
       ·exact ⟨fkeep fk9 a0_0,fkeep fk9 a0_1,fkeep fk9 a0_2,fkeep fk9 a2_0,fkeep fk9 a2_1,fkeep fk9 a2_2,fkeep fk9 a2_3⟩
       clear hK K
       try simp only [PU]
       refine hd_one (i:=7) rfl (by kernel_rfl) (by kernel_rfl) (fun K hK=>?_)
       go_simp
       go_at_call 31
       have hcc:=implServeDemand_l _ x0 _ x1 ⟨g2a,h2a,l2a,j2a⟩ x3 _ (((hy0.keep hb1).keep hba).keep hb2) ((hy1.keep hba).keep hb2)
       rw [← HR0.out,← HR1.out,← HR2.out] at hcc
       refine hcc.mono ?_
       clear hcc
       rintro e wk10 ⟨vH,rfl,how,hbr⟩
       obtain ⟨qH,mH,cH,fH,kH,dH,tH,iH,eH,hvv⟩:=how.shape
       subst hvv
       have fk10:=fstep fk9 hbr
       go_wp2_with fail
       refine hK.out _ _ ?_ (fun hHeld=>?_)
       ·exact ⟨fkeep fk10 a0_0,fkeep fk10 a0_1,fkeep fk10 a0_2,fkeep fk10 a2_0,fkeep fk10 a2_1,fkeep fk10 a2_2,fkeep fk10 a2_3⟩
       clear hK K
       try simp only [PU]
       refine hd_tk (i:=8) (v:=?_) rfl ?_ ?_
       rotate_left
       ·(intro w hSw; (try dsimp only at hSw); go_simp; first | done | with_reducible rfl)
       try simp only [PU]
       refine hd_tk (i:=9) (v:=?_) rfl ?_ ?_
       rotate_left
       ·(intro w hSw; (try dsimp only at hSw); go_simp; first | done | with_reducible rfl)
       try simp only [PU]
       refine hd_tk (i:=10) (v:=?_) rfl ?_ ?_
       rotate_left
       ·(intro w hSw; (try dsimp only at hSw); go_simp; first | done | with_reducible rfl)
       try simp only [PU]
       refine hd_tk (i:=11) (v:=?_) rfl ?_ ?_
       rotate_left
       ·(intro w hSw; (try dsimp only at hSw); go_simp; first | done | with_reducible rfl)
       try simp only [PU]
       have rb:=((ra.keep hb2).keep hbr)
       have z0:=rb.cell (i:=0) rfl
       have z1:=rb.cell (i:=1) rfl
       have z2:=rb.cell (i:=2) rfl
       have u0:=rb.frozen 0
       have u1:=rb.frozen 1
       have u2:=rb.frozen 2
       have fs:=(fset (fset (fset fk10 hga (o:=0) (.slice qH mH cH)) hga (o:=1) (.slice fH kH dH)) hga (o:=2) (.slice tH iH eH))
       refine hd_one (i:=13) rfl (by kernel_rfl) (by kernel_rfl) (fun K hK=>?_)
       (go_simp)
       refine hK.out _ _ ?_ (fun hHeld=>?_)
       ·exact ⟨fkeep fs a0_0,fkeep fs a0_1,fkeep fs a0_2,fkeep fs a2_0,fkeep fs a2_1,fkeep fs a2_2,fkeep fs a2_3⟩
       clear hK K
       try simp only [PU]
       refine hd_tk (i:=14) (v:=?_) rfl ?_ ?_
       rotate_left
       ·(intro w hSw; (try dsimp only at hSw); go_simp; first | done | with_reducible rfl)
       try simp only [PU]
       refine hd_done (by kernel_rfl) ?_
       clear hHeld
       simp only [List.drop_succ_cons,List.drop_zero]
       go_wp2_with fail
       go_meet
       have hrow:=(((rb.set 0 (.slice qH mH cH)).set 1 (.slice fH kH dH)).set 2 (.slice tH iH eH))
       exact ⟨_,_,_,_,_,_,_,_,_,_,rfl,rfl,rfl,hrow,(how.box rb).held.wide (Nat.zero_le _) (Nat.le_refl _),fs,hga⟩
     ·refine hd_cons (i:=12) rfl (by kernel_rfl) (fun K hK=>?_) hd_nil
      go_simp
      obtain ⟨wk11,hwa⟩:∃ W,W = wk1.alloc (.cells #[.slice none 0 0, .slice none 0 0, .slice none 0 0] 38):=⟨_,rfl⟩
      rw [← hwa]
      have hba:Fresh wk1 wk11:=by rw [hwa]; exact fnew (frefl _) _
      have ra:RowAt wk11 wk1.heap.size 38 [.slice none 0 0, .slice none 0 0, .slice none 0 0]:=by rw [hwa]; exact RowAt.new _ _ _
      have hga:w14.heap.size ≤ wk1.heap.size:=fk1.size
      have fk11:=fstep fk1 hba
      clear hwa
      refine hK.out _ _ ?_ (fun hHeld=>?_)
      ·exact ⟨fkeep fk11 a0_0,fkeep fk11 a0_1,fkeep fk11 a0_2,fkeep fk11 a2_0,fkeep fk11 a2_1,fkeep fk11 a2_2,fkeep fk11 a2_3⟩
      clear hK K
      try simp only [PU]
      refine hd_one (i:=3) rfl (by kernel_rfl) (by kernel_rfl) (fun K hK=>?_)
      go_simp
      go_at_call 22
      refine (toFm_k _ x1 _ (HI1.out.keep (fstep HF.out fk11))).mono ?_
      rintro e wk12 ⟨u1,rfl,hy1,hb1⟩
      have fk12:=fstep fk11 hb1
      go_wp2_with fail
      refine hK.out _ _ ?_ (fun hHeld=>?_)
      ·exact ⟨fkeep fk12 a0_0,fkeep fk12 a0_1,fkeep fk12 a0_2,fkeep fk12 a2_0,fkeep fk12 a2_1,fkeep fk12 a2_2,fkeep fk12 a2_3⟩
      clear hK K
      try simp only [PU]
      refine hd_one (i:=5) rfl (by kernel_rfl) (by kernel_rfl) (fun K hK=>?_)
      go_simp
      go_at_call 23
      refine (toDemand_any g2a h2a l2a j2a _).mono ?_
      rintro e wk13 ⟨rfl,hb2⟩
      have fk13:=fstep fk12 hb2
      go_wp2_with fail
      refine hK.out _ _ ?_ (fun hHeld=>?_)
      ·exact ⟨fkeep fk13 a0_0,fkeep fk13 a0_1,fkeep fk13 a0_2,fkeep fk13 a2_0,fkeep fk13 a2_1,fkeep fk13 a2_2,fkeep fk13 a2_3⟩
      clear hK K
      try simp only [PU]
      refine hd_one (i:=7) rfl (by kernel_rfl) (by kernel_rfl) (fun K hK=>?_)
      go_simp
      go_at_call 31
      have hcc:=implServeDemand_l _ x0 _ x1 ⟨g2a,h2a,l2a,j2a⟩ x3 _ (((hy0.keep hba).keep hb1).keep hb2) (hy1.keep hb2)
      rw [← HR0.out,← HR1.out,← HR2.out] at hcc
      refine hcc.mono ?_
      clear hcc
      rintro e wk14 ⟨vH,rfl,how,hbr⟩
      obtain ⟨qH,mH,cH,fH,kH,dH,tH,iH,eH,hvv⟩:=how.shape
      subst hvv
      have fk14:=fstep fk13 hbr
      go_wp2_with fail
      refine hK.out _ _ ?_ (fun hHeld=>?_)
      ·exact ⟨fkeep fk14 a0_0,fkeep fk14 a0_1,fkeep fk14 a0_2,fkeep fk14 a2_0,fkeep fk14 a2_1,fkeep fk14 a2_2,fkeep fk14 a2_3⟩
      clear hK K
      try simp only [PU]
      refine hd_tk (i:=8) (v:=?_) rfl ?_ ?_
      rotate_left
      ·(intro w hSw; (try dsimp only at hSw); go_simp; first | done | with_reducible rfl)
      try simp only [PU]
      refine hd_tk (i:=9) (v:=?_) rfl ?_ ?_
      rotate_left
      ·(intro w hSw; (try dsimp only at hSw); go_simp; first | done | with_reducible rfl)
      try simp only [PU]
      refine hd_tk (i:=10) (v:=?_) rfl ?_ ?_
      rotate_left
      ·(intro w hSw; (try dsimp only at hSw); go_simp; first | done | with_reducible rfl)
      try simp only [PU]
      refine hd_tk (i:=11) (v:=?_) rfl ?_ ?_
      rotate_left
      ·(intro w hSw; (try dsimp only at hSw); go_simp; first | done | with_reducible rfl)
      try simp only [PU]
      have rb:=(((ra.keep hb1).keep hb2).keep hbr)
      have z0:=rb.cell (i:=0) rfl
      have z1:=rb.cell (i:=1) rfl
      have z2:=rb.cell (i:=2) rfl
      have u0:=rb.frozen 0
      have u1:=rb.frozen 1
      have u2:=rb.frozen 2
      have fs:=(fset (fset (fset fk14 hga (o:=0) (.slice qH mH cH)) hga (o:=1) (.slice fH kH dH)) hga (o:=2) (.slice tH iH eH))
      refine hd_one (i:=13) rfl (by kernel_rfl) (by kernel_rfl) (fun K hK=>?_)
      (go_simp)
      refine hK.out _ _ ?_ (fun hHeld=>?_)
      ·exact ⟨fkeep fs a0_0,fkeep fs a0_1,fkeep fs a0_2,fkeep fs a2_0,fkeep fs a2_1,fkeep fs a2_2,fkeep fs a2_3⟩
      clear hK K
      try simp only [PU]
      refine hd_tk (i:=14) (v:=?_) rfl ?_ ?_
      rotate_left
      ·(intro w hSw; (try dsimp only at hSw); go_simp; first | done | with_reducible rfl)
      try simp only [PU]
      refine hd_done (by kernel_rfl) ?_
      clear hHeld
      simp only [List.drop_succ_cons,List.drop_zero]
      go_wp2_with fail
      go_meet
      have hrow:=(((rb.set 0 (.slice qH mH cH)).set 1 (.slice fH kH dH)).set 2 (.slice tH iH eH))
      exact ⟨_,_,_,_,_,_,_,_,_,_,rfl,rfl,rfl,hrow,(how.box rb).held.wide (Nat.zero_le _) (Nat.le_refl _),fs,hga⟩
    ·refine hd_cons (i:=12) rfl (by kernel_rfl) (fun K hK=>?_) hd_nil
     go_simp
     obtain ⟨wk15,hwa⟩:∃ W,W = Wz.alloc (.cells #[.slice none 0 0, .slice none 0 0, .slice none 0 0] 38):=⟨_,rfl⟩
     rw [← hwa]
     have hba:Fresh Wz wk15:=by rw [hwa]; exact fnew (frefl _) _
     have ra:RowAt wk15 Wz.heap.size 38 [.slice none 0 0, .slice none 0 0, .slice none 0 0]:=by rw [hwa]; exact RowAt.new _ _ _
     have hga:w14.heap.size ≤ Wz.heap.size:=f0.size
     have fk15:=fstep f0 hba
     clear hwa
     refine hK.out _ _ ?_ (fun hHeld=>?_)
     ·exact ⟨fkeep fk15 a0_0,fkeep fk15 a0_1,fkeep fk15 a0_2,fkeep fk15 a2_0,fkeep fk15 a2_1,fkeep fk15 a2_2,fkeep fk15 a2_3⟩
     clear hK K
     try simp only [PU]
     refine hd_one (i:=1) rfl (by kernel_rfl) (by kernel_rfl) (fun K hK=>?_)
     go_simp
     go_at_call 21
     refine (toPlan_k _ x0 _ (HI0.out.keep (fstep HF.out fk15))).mono ?_
     rintro e wk16 ⟨u0,rfl,hy0,hb0⟩
     have fk16:=fstep fk15 hb0
     go_wp2_with fail
     refine hK.out _ _ ?_ (fun hHeld=>?_)
     ·exact ⟨fkeep fk16 a0_0,fkeep fk16 a0_1,fkeep fk16 a0_2,fkeep fk16 a2_0,fkeep fk16 a2_1,fkeep fk16 a2_2,fkeep fk16 a2_3⟩
     clear hK K
     try simp only [PU]
     refine hd_one (i:=3) rfl (by kernel_rfl) (by kernel_rfl) (fun K hK=>?_)
     go_simp
     go_at_call 22
     refine (toFm_k _ x1 _ (HI1.out.keep (fstep HF.out fk16))).mono ?_
     rintro e wk17 ⟨u1,rfl,hy1,hb1⟩
     have fk17:=fstep fk16 hb1
     go_wp2_with fail
     refine hK.out _ _ ?_ (fun hHeld=>?_)
     ·exact ⟨fkeep fk17 a0_0,fkeep fk17 a0_1,fkeep fk17 a0_2,fkeep fk17 a2_0,fkeep fk17 a2_1,fkeep fk17 a2_2,fkeep fk17 a2_3⟩
     clear hK K
     try simp only [PU]
     refine hd_one (i:=5) rfl (by kernel_rfl) (by kernel_rfl) (fun K hK=>?_)
     go_simp
     go_at_call 23
     refine (toDemand_any g2a h2a l2a j2a _).mono ?_
     rintro e wk18 ⟨rfl,hb2⟩
     have fk18:=fstep fk17 hb2
     go_wp2_with fail
     refine hK.out _ _ ?_ (fun hHeld=>?_)
     ·exact ⟨fkeep fk18 a0_0,fkeep fk18 a0_1,fkeep fk18 a0_2,fkeep fk18 a2_0,fkeep fk18 a2_1,fkeep fk18 a2_2,fkeep fk18 a2_3⟩
     clear hK K
     try simp only [PU]
     refine hd_one (i:=7) rfl (by kernel_rfl) (by kernel_rfl) (fun K hK=>?_)
     go_simp
     go_at_call 31
     have hcc:=implServeDemand_l _ x0 _ x1 ⟨g2a,h2a,l2a,j2a⟩ x3 _ ((hy0.keep hb1).keep hb2) (hy1.keep hb2)
     rw [← HR0.out,← HR1.out,← HR2.out] at hcc
     refine hcc.mono ?_
     clear hcc
     rintro e wk19 ⟨vH,rfl,how,hbr⟩
     obtain ⟨qH,mH,cH,fH,kH,dH,tH,iH,eH,hvv⟩:=how.shape
     subst hvv
     have fk19:=fstep fk18 hbr
     go_wp2_with fail
     refine hK.out _ _ ?_ (fun hHeld=>?_)
     ·exact ⟨fkeep fk19 a0_0,fkeep fk19 a0_1,fkeep fk19 a0_2,fkeep fk19 a2_0,fkeep fk19 a2_1,fkeep fk19 a2_2,fkeep fk19 a2_3⟩
     clear hK K
     try simp only [PU]
     refine hd_tk (i:=8) (v:=?_) rfl ?_ ?_
     rotate_left
     ·(intro w hSw; (try dsimp only at hSw); go_simp; first | done | with_reducible rfl)
     try simp only [PU]
     refine hd_tk (i:=9) (v:=?_) rfl ?_ ?_
     rotate_left
     ·(intro w hSw; (try dsimp only at hSw); go_simp; first | done | with_reducible rfl)
     try simp only [PU]
     refine hd_tk (i:=10) (v:=?_) rfl ?_ ?_
     rotate_left
     ·(intro w hSw; (try dsimp only at hSw); go_simp; first | done | with_reducible rfl)
     try simp only [PU]
     refine hd_tk (i:=11) (v:=?_) rfl ?_ ?_
     rotate_left
     ·(intro w hSw; (try dsimp only at hSw); go_simp; first | done | with_reducible rfl)
     try simp only [PU]
     have rb:=((((ra.keep hb0).keep hb1).keep hb2).keep hbr)
     have z0:=rb.cell (i:=0) rfl
     have z1:=rb.cell (i:=1) rfl
     have z2:=rb.cell (i:=2) rfl
     have u0:=rb.frozen 0
     have u1:=rb.frozen 1
     have u2:=rb.frozen 2
     have fs:=(fset (fset (fset fk19 hga (o:=0) (.slice qH mH cH)) hga (o:=1) (.slice fH kH dH)) hga (o:=2) (.slice tH iH eH))
     refine hd_one (i:=13) rfl (by kernel_rfl) (by kernel_rfl) (fun K hK=>?_)
     (go_simp)
     refine hK.out _ _ ?_ (fun hHeld=>?_)
     ·exact ⟨fkeep fs a0_0,fkeep fs a0_1,fkeep fs a0_2,fkeep fs a2_0,fkeep fs a2_1,fkeep fs a2_2,fkeep fs a2_3⟩
     clear hK K
     try simp only [PU]
     refine hd_tk (i:=14) (v:=?_) rfl ?_ ?_
     rotate_left
     ·(intro w hSw; (try dsimp only at hSw); go_simp; first | done | with_reducible rfl)
     try simp only [PU]
     refine hd_done (by kernel_rfl) ?_
     clear hHeld
     simp only [List.drop_succ_cons,List.drop_zero]
     go_wp2_with fail
     go_meet
     have hrow:=(((rb.set 0 (.slice qH mH cH)).set 1 (.slice fH kH dH)).set 2 (.slice tH iH eH))
     exact ⟨_,_,_,_,_,_,_,_,_,_,rfl,rfl,rfl,hrow,(how.box rb).held.wide (Nat.zero_le _) (Nat.le_refl _),fs,hga⟩
   case rest =>
    obtain ⟨gbH,qH,mH,cH,fH,kH,dH,tH,iH,eH,rfl,rfl,rfl,hrowH,howH,hb,hgbH⟩:=hcut
    have HRH:=Lib.hid howH
    have bH_0:=hrowH.cell (i:=0) rfl
    have bH_1:=hrowH.cell (i:=1) rfl
    have bH_2:=hrowH.cell (i:=2) rfl
    have HSZ20:=Lib.hid (show gbH < wc.heap.size from hrowH.lt)
    have HSZ21:=Lib.hid hgbH
    obtain ⟨wcH,hwc⟩:∃ W,W = wc:=⟨_,rfl⟩
    subst hwc
    clear hrowH howH hgbH
    have HSZ22:=Lib.hid (hb.size)
    replace a0_0:=fkeep hb a0_0
    replace a0_1:=fkeep hb a0_1
    replace a0_2:=fkeep hb a0_2
    replace a2_0:=fkeep hb a2_0
    replace a2_1:=fkeep hb a2_1
    replace a2_2:=fkeep hb a2_2
    replace a2_3:=fkeep hb a2_3
    replace bW_0:=fkeep hb bW_0
    replace bW_1:=fkeep hb bW_1
    replace bW_2:=fkeep hb bW_2
    replace bG_0:=fkeep hb bG_0
    replace bG_1:=fkeep hb bG_1
    replace bG_2:=fkeep hb bG_2
    have HF:=Lib.hid (fstep HF.out hb)
    replace HRW:=Lib.hid (HRW.out.keep hb)
    replace HG:=Lib.hid (HG.out.keep hb)
    clear hb
    go_wp2_with fail
    refine (eqPl_r _ _ _ _ _ _ r0 _ (HRH.out) (HRW.out) HSM.out).mono ?_
    rintro e w15 ⟨rfl,hb⟩
    have HSZ23:=Lib.hid (hb.size)
    replace a0_0:=fkeep hb a0_0
    replace a0_1:=fkeep hb a0_1
    replace a0_2:=fkeep hb a0_2
    replace a2_0:=fkeep hb a2_0
    replace a2_1:=fkeep hb a2_1
    replace a2_2:=fkeep hb a2_2
    replace a2_3:=fkeep hb a2_3
    replace bW_0:=fkeep hb bW_0
    replace bW_1:=fkeep hb bW_1
    replace bW_2:=fkeep hb bW_2
    replace bG_0:=fkeep hb bG_0
    replace bG_1:=fkeep hb bG_1
    replace bG_2:=fkeep hb bG_2
    replace bH_0:=fkeep hb bH_0
    replace bH_1:=fkeep hb bH_1
    replace bH_2:=fkeep hb bH_2
    have HF:=Lib.hid (fstep HF.out hb)
    replace HRW:=Lib.hid (HRW.out.keep hb)
    replace HG:=Lib.hid (HG.out.keep hb)
    replace HRH:=Lib.hid (HRH.out.keep hb)
    clear hb
    go_wp2_with fail
    refine (heldPl_o _ _ r0 1 _ _ HG.out HSM.out (by omega) (by omega)).mono ?_
    rintro e w16 ⟨rfl,hb⟩
    have HSZ24:=Lib.hid (hb.size)
    replace a0_0:=fkeep hb a0_0
    replace a0_1:=fkeep hb a0_1
    replace a0_2:=fkeep hb a0_2
    replace a2_0:=fkeep hb a2_0
    replace a2_1:=fkeep hb a2_1
    replace a2_2:=fkeep hb a2_2
    replace a2_3:=fkeep hb a2_3
    replace bW_0:=fkeep hb bW_0
    replace bW_1:=fkeep hb bW_1
    replace bW_2:=fkeep hb bW_2
    replace bG_0:=fkeep hb bG_0
    replace bG_1:=fkeep hb bG_1
    replace bG_2:=fkeep hb bG_2
    replace bH_0:=fkeep hb bH_0
    replace bH_1:=fkeep hb bH_1
    replace bH_2:=fkeep hb bH_2
    have HF:=Lib.hid (fstep HF.out hb)
    replace HRW:=Lib.hid (HRW.out.keep hb)
    replace HG:=Lib.hid (HG.out.keep hb)
    replace HRH:=Lib.hid (HRH.out.keep hb)
    clear hb
    go_wp2
    go_ret
    exact ⟨rfl,HF.out⟩
end Go.Proofs.YteckjlkhopkogaaGreat
