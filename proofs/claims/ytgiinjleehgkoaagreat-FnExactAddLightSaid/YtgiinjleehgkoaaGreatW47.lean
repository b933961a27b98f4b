/- The walk of FnExactAddLight. -/
import Derived.Test.YtgiinjleehgkoaaGreatAds
import Derived.Test.YtgiinjleehgkoaaGreatPm3
import Derived.Test.YtgiinjleehgkoaaGreatMl
import Derived.Test.YtgiinjleehgkoaaGreatU1
import Derived.Test.YtgiinjleehgkoaaGreatKLt
import Derived.Test.YtgiinjleehgkoaaGreatHd
import Derived.Deep.RegionHeld3
import Derived.Deep.DeepCutAuto
namespace Go.Proofs.YtgiinjleehgkoaaGreat
open Go.RowKit Go.PlainAid

set_option maxHeartbeats 4000000 in
set_option maxRecDepth 100000 in
theorem law_AddLight (v0 : Value) (x0 : PlanV) (v1 : Value) (x1 : LtV) (w : World) (h0 : PlRaw w v0 x0) (h1 : LgRaw w v1 x1) :
    Calls Tryz.prog 5 #[v0, v1] w fun e w' => e = .returned (.bool true) ∧ Fresh w w' := by
  obtain ⟨q0a, m0a, c0a, p0a, k0a, d0a, r0a, i0a, e0a, hv0⟩ := h0.shape
  subst hv0
  obtain ⟨i1a, s1a, q1a, m1a, c1a, b1a, d1a, hv1⟩ := h1.shape
  subst hv1
  have HI0 := Lib.hid h0
  clear h0
  have HI1 := Lib.hid h1
  clear h1
  obtain ⟨r0, hr0⟩ : ∃ r0, r0 = (adF x0 x1).1 := ⟨_, rfl⟩
  have HR0 := Lib.hid hr0
  clear hr0
  obtain ⟨r1, hr1⟩ : ∃ r1, r1 = (adF x0 x1).2 := ⟨_, rfl⟩
  have HR1 := Lib.hid hr1
  clear hr1
  obtain ⟨B0, hB0⟩ : ∃ B, B = w.alloc (.cells #[.slice q0a m0a c0a, .slice p0a k0a d0a, .slice r0a i0a e0a] 28) := ⟨_, rfl⟩
  have hz0 : B0.heap.size = w.heap.size + 1 := by rw [hB0]; simp
  have hf0 : Fresh w B0 := by rw [hB0]; exact fnew (frefl _) _
  have hrow0 : RowAt B0 w.heap.size 28 [.slice q0a m0a c0a, .slice p0a k0a d0a, .slice r0a i0a e0a] := by rw [hB0]; exact RowAt.new _ _ _
  obtain ⟨B1, hB1⟩ : ∃ B, B = B0.alloc (.cells #[.int .i64 i1a, .int .i64 s1a, .slice q1a m1a c1a, .int .i64 b1a, .int .i64 d1a] 65) := ⟨_, rfl⟩
  have hz1 : B1.heap.size = B0.heap.size + 1 := by rw [hB1]; simp
  have hf1 : Fresh B0 B1 := by rw [hB1]; exact fnew (frefl _) _
  have hrow1 : RowAt B1 B0.heap.size 65 [.int .i64 i1a, .int .i64 s1a, .slice q1a m1a c1a, .int .i64 b1a, .int .i64 d1a] := by rw [hB1]; exact RowAt.new _ _ _
  replace hrow0 := hrow0.keep hf1
  have HF := Lib.hid (fstep (fstep (frefl w) hf0) hf1)
  have a0_0 := hrow0.cell (i := 0) rfl
  have a0_1 := hrow0.cell (i := 1) rfl
  have a0_2 := hrow0.cell (i := 2) rfl
  have a1_0 := hrow1.cell (i := 0) rfl
  have a1_1 := hrow1.cell (i := 1) rfl
  have a1_2 := hrow1.cell (i := 2) rfl
  have a1_3 := hrow1.cell (i := 3) rfl
  have a1_4 := hrow1.cell (i := 4) rfl
  rw [hz0] at a1_0 a1_1 a1_2 a1_3 a1_4
  have HB := Lib.hid (And.intro hB0 hB1)
  clear hB0 hz0 hf0 hrow0 hB1 hz1 hf1 hrow1
  go_enter Tryz.func5, Tryz.ntmps5
  go_wp2_with fail
  rw [← HB.out.1, ← HB.out.2]
  clear HB
  refine (szPlan_k _ x0 1048576 _ (PlRaw.keep HI0.out HF.out) (by omega) (by omega)).mono ?_
  rintro e w1 ⟨l0, rfl, l00, l01, hsm, hb⟩
  have HS0 := Lib.hid hsm
  clear hsm
  replace a0_0 := fkeep hb a0_0
  replace a0_1 := fkeep hb a0_1
  replace a0_2 := fkeep hb a0_2
  replace a1_0 := fkeep hb a1_0
  replace a1_1 := fkeep hb a1_1
  replace a1_2 := fkeep hb a1_2
  replace a1_3 := fkeep hb a1_3
  replace a1_4 := fkeep hb a1_4
  have HF := Lib.hid (fstep HF.out hb)
  clear hb
  by_cases hneg0 : l0 < 0
  · go_wp2
    go_ret
    exact ⟨rfl, HF.out⟩
  go_wp2_with fail
  refine (szLight_k _ x1 l0 _ (LgRaw.keep HI1.out HF.out) (by omega) (by omega)).mono ?_
  rintro e w2 ⟨l1, rfl, l10, l11, hsm, hb⟩
  have HS1 := Lib.hid hsm
  clear hsm
  replace a0_0 := fkeep hb a0_0
  replace a0_1 := fkeep hb a0_1
  replace a0_2 := fkeep hb a0_2
  replace a1_0 := fkeep hb a1_0
  replace a1_1 := fkeep hb a1_1
  replace a1_2 := fkeep hb a1_2
  replace a1_3 := fkeep hb a1_3
  replace a1_4 := fkeep hb a1_4
  have HF := Lib.hid (fstep HF.out hb)
  clear hb
  by_cases hneg1 : l1 < 0
  · go_wp2
    go_ret
    exact ⟨rfl, HF.out⟩
  replace HI0 := Lib.hid (PlRaw.small HI0.out (HS0.out (by omega)))
  clear HS0
  replace HI1 := Lib.hid (LgRaw.small HI1.out (HS1.out (by omega)))
  clear HS1
  have hlen := adF_small x0 x1 HI0.out.isSmall HI1.out.isSm
  rw [← HR0.out] at hlen
  have HSM := Lib.hid hlen
  clear hlen
  have HSZ0 := Lib.hid HF.out.size
  have HSZ1 := Lib.hid (World.block_lt_of_cell? _ _ a1_0)
  go_upto_region 8 with fail
  go_cut [6, 7] (fun z6 z7 wx => ∃ (gb : Nat) (qW : Option Addr) (mW : Nat) (cW : Nat) (fW : Option Addr) (kW : Nat) (dW : Nat) (tW : Option Addr) (iW : Nat) (eW : Nat), z6 = .pointer (some ⟨gb, 0, none⟩) ∧ z7 = .bool r1 ∧ RowAt wx gb 41 [.slice qW mW cW, .slice fW kW dW, .slice tW iW eW] ∧ PlHeld wx (0) wx.heap.size (.agg #[.slice qW mW cW, .slice fW kW dW, .slice tW iW eW]) r0 ∧ Fresh w2 wx ∧ w2.heap.size ≤ gb)
  case first =>
    refine hd_start (n := 10) (S := fun wz => wz.cell? ⟨w.heap.size, 0, none⟩ = some (.slice q0a m0a c0a) ∧ wz.cell? ⟨w.heap.size, 1, none⟩ = some (.slice p0a k0a d0a) ∧ wz.cell? ⟨w.heap.size, 2, none⟩ = some (.slice r0a i0a e0a) ∧ wz.cell? ⟨w.heap.size + 1, 0, none⟩ = some (.int .i64 i1a) ∧ wz.cell? ⟨w.heap.size + 1, 1, none⟩ = some (.int .i64 s1a) ∧ wz.cell? ⟨w.heap.size + 1, 2, none⟩ = some (.slice q1a m1a c1a) ∧ wz.cell? ⟨w.heap.size + 1, 3, none⟩ = some (.int .i64 b1a) ∧ wz.cell? ⟨w.heap.size + 1, 4, none⟩ = some (.int .i64 d1a)) (by kernel_rfl) (by kernel_rfl) ⟨fkeep (fdrew (frefl _)) a0_0, fkeep (fdrew (frefl _)) a0_1, fkeep (fdrew (frefl _)) a0_2, fkeep (fdrew (frefl _)) a1_0, fkeep (fdrew (frefl _)) a1_1, fkeep (fdrew (frefl _)) a1_2, fkeep (fdrew (frefl _)) a1_3, fkeep (fdrew (frefl _)) a1_4⟩ (fun hHeld => ?_)
    obtain ⟨Wz, hWz⟩ : ∃ W, W = w2.drew := ⟨_, rfl⟩
    rw [← hWz] at hHeld ⊢
    have f0 : Fresh w2 Wz := by rw [hWz]; exact fdrew (frefl _)
    clear hWz
    refine hd_take (i := 0) (v := ?_) rfl (by kernel_rfl) (by kernel_rfl) (by kernel_rfl) (by kernel_rfl) (fun _ _ _ h => h) (by assumption) (Or.inl ⟨by rfl, ?_⟩) ?_
    rotate_left
    · (intro w hSw; (try dsimp only at hSw); go_simp; first | done | with_reducible rfl)
    try simp only [Act.put, List.getElem_toArray, List.getElem_cons_succ, List.getElem_cons_zero, List.setIfInBounds_toArray, List.set_cons_zero, List.set_cons_succ]
    refine hd_take (i := 2) (v := ?_) rfl (by kernel_rfl) (by kernel_rfl) (by kernel_rfl) (by kernel_rfl) (fun _ _ _ h => h) (by assumption) (Or.inl ⟨by rfl, ?_⟩) ?_
    rotate_left
    · (intro w hSw; (try dsimp only at hSw); go_simp; first | done | with_reducible rfl)
    try simp only [Act.put, List.getElem_toArray, List.getElem_cons_succ, List.getElem_cons_zero, List.setIfInBounds_toArray, List.set_cons_zero, List.set_cons_succ]
    refine hd_ready (rs := [1, 8]) (by kernel_rfl) (by simp) ?_
    refine hd_cons (i := 1) rfl (by kernel_rfl) (fun K hK => ?_) ?_
    · skip
      go_simp
      go_at_call 9
      refine (toPlan_k _ x0 _ (HI0.out.keep (fstep HF.out f0))).mono ?_
      rintro e wk1 ⟨y0, rfl, hy0, hb0⟩
      have fk1 := fstep f0 hb0
      go_wp2_with fail
      refine hK.out _ _ ?_ (fun hHeld => ?_)
      · exact ⟨fkeep fk1 a0_0, fkeep fk1 a0_1, fkeep fk1 a0_2, fkeep fk1 a1_0, fkeep fk1 a1_1, fkeep fk1 a1_2, fkeep fk1 a1_3, fkeep fk1 a1_4⟩
      clear hK K
      try simp only [Act.put, List.getElem_toArray, List.getElem_cons_succ, List.getElem_cons_zero, List.setIfInBounds_toArray, List.set_cons_zero, List.set_cons_succ]
      refine hd_ready (rs := [3, 8]) (by kernel_rfl) (by simp) ?_
      refine hd_cons (i := 3) rfl (by kernel_rfl) (fun K hK => ?_) ?_
      · skip
        go_simp
        go_at_call 26
        refine (toLight_k _ x1 _ (HI1.out.keep (fstep HF.out fk1))).mono ?_
        rintro e wk2 ⟨y1, rfl, hy1, hb1⟩
        have fk2 := fstep fk1 hb1
        go_wp2_with fail
        refine hK.out _ _ ?_ (fun hHeld => ?_)
        · exact ⟨fkeep fk2 a0_0, fkeep fk2 a0_1, fkeep fk2 a0_2, fkeep fk2 a1_0, fkeep fk2 a1_1, fkeep fk2 a1_2, fkeep fk2 a1_3, fkeep fk2 a1_4⟩
        clear hK K
        try simp only [Act.put, List.getElem_toArray, List.getElem_cons_succ, List.getElem_cons_zero, List.setIfInBounds_toArray, List.set_cons_zero, List.set_cons_succ]
        refine hd_ready (rs := [4, 8]) (by kernel_rfl) (by simp) ?_
        refine hd_cons (i := 4) rfl (by kernel_rfl) (fun K hK => ?_) ?_
        · skip
          go_simp
          go_at_call 25
          have hcc := specAddLight_any _ x0 _ x1 _ (hy0.keep hb1) hy1
          rw [← HR0.out, ← HR1.out] at hcc
          refine hcc.mono ?_
          clear hcc
          rintro e wk3 ⟨vW, rfl, how, hbr⟩
          obtain ⟨qW, mW, cW, fW, kW, dW, tW, iW, eW, hvv⟩ := how.shape
          subst hvv
          have fk3 := fstep fk2 hbr
          go_wp2_with fail
          refine hK.out _ _ ?_ (fun hHeld => ?_)
          · exact ⟨fkeep fk3 a0_0, fkeep fk3 a0_1, fkeep fk3 a0_2, fkeep fk3 a1_0, fkeep fk3 a1_1, fkeep fk3 a1_2, fkeep fk3 a1_3, fkeep fk3 a1_4⟩
          clear hK K
          try simp only [Act.put, List.getElem_toArray, List.getElem_cons_succ, List.getElem_cons_zero, List.setIfInBounds_toArray, List.set_cons_zero, List.set_cons_succ]
          refine hd_take (i := 5) (v := ?_) rfl (by kernel_rfl) (by kernel_rfl) (by kernel_rfl) (by kernel_rfl) (fun _ _ _ h => h) (by assumption) (Or.inl ⟨by rfl, ?_⟩) ?_
          rotate_left
          · (intro w hSw; (try dsimp only at hSw); go_simp; first | done | with_reducible rfl)
          try simp only [Act.put, List.getElem_toArray, List.getElem_cons_succ, List.getElem_cons_zero, List.setIfInBounds_toArray, List.set_cons_zero, List.set_cons_succ]
          refine hd_take (i := 6) (v := ?_) rfl (by kernel_rfl) (by kernel_rfl) (by kernel_rfl) (by kernel_rfl) (fun _ _ _ h => h) (by assumption) (Or.inl ⟨by rfl, ?_⟩) ?_
          rotate_left
          · (intro w hSw; (try dsimp only at hSw); go_simp; first | done | with_reducible rfl)
          try simp only [Act.put, List.getElem_toArray, List.getElem_cons_succ, List.getElem_cons_zero, List.setIfInBounds_toArray, List.set_cons_zero, List.set_cons_succ]
          refine hd_take (i := 7) (v := ?_) rfl (by kernel_rfl) (by kernel_rfl) (by kernel_rfl) (by kernel_rfl) (fun _ _ _ h => h) (by assumption) (Or.inl ⟨by rfl, ?_⟩) ?_
          rotate_left
          · (intro w hSw; (try dsimp only at hSw); go_simp; first | done | with_reducible rfl)
          try simp only [Act.put, List.getElem_toArray, List.getElem_cons_succ, List.getElem_cons_zero, List.setIfInBounds_toArray, List.set_cons_zero, List.set_cons_succ]
          refine hd_one (i := 8) rfl (by kernel_rfl) (by kernel_rfl) (fun K hK => ?_)
          go_simp
          obtain ⟨wk4, hwa⟩ : ∃ W, W = wk3.alloc (.cells #[.slice none 0 0, .slice none 0 0, .slice none 0 0] 41) := ⟨_, rfl⟩
          rw [← hwa]
          have hba : Fresh wk3 wk4 := by rw [hwa]; exact fnew (frefl _) _
          have ra : RowAt wk4 wk3.heap.size 41 [.slice none 0 0, .slice none 0 0, .slice none 0 0] := by rw [hwa]; exact RowAt.new _ _ _
          have hga : w2.heap.size ≤ wk3.heap.size := fk3.size
          have fk4 := fstep fk3 hba
          clear hwa
          refine hK.out _ _ ?_ (fun hHeld => ?_)
          · exact ⟨fkeep fk4 a0_0, fkeep fk4 a0_1, fkeep fk4 a0_2, fkeep fk4 a1_0, fkeep fk4 a1_1, fkeep fk4 a1_2, fkeep fk4 a1_3, fkeep fk4 a1_4⟩
          clear hK K
          try simp only [Act.put, List.getElem_toArray, List.getElem_cons_succ, List.getElem_cons_zero, List.setIfInBounds_toArray, List.set_cons_zero, List.set_cons_succ]
          have rb := ra
          have z0 := rb.cell (i := 0) rfl
          have z1 := rb.cell (i := 1) rfl
          have z2 := rb.cell (i := 2) rfl
          have u0 := rb.frozen 0
          have u1 := rb.frozen 1
          have u2 := rb.frozen 2
          have fs := (fset (fset (fset fk4 hga (o := 0) (.slice qW mW cW)) hga (o := 1) (.slice fW kW dW)) hga (o := 2) (.slice tW iW eW))
          refine hd_one (i := 9) rfl (by kernel_rfl) (by kernel_rfl) (fun K hK => ?_)
          (go_simp)
          refine hK.out _ _ ?_ (fun hHeld => ?_)
          · exact ⟨fkeep fs a0_0, fkeep fs a0_1, fkeep fs a0_2, fkeep fs a1_0, fkeep fs a1_1, fkeep fs a1_2, fkeep fs a1_3, fkeep fs a1_4⟩
          clear hK K
          try simp only [Act.put, List.getElem_toArray, List.getElem_cons_succ, List.getElem_cons_zero, List.setIfInBounds_toArray, List.set_cons_zero, List.set_cons_succ]
          refine hd_done (by kernel_rfl) ?_
          clear hHeld
          simp only [List.drop_succ_cons, List.drop_zero]
          go_wp2_with fail
          go_meet
          have hrow := (((rb.set 0 (.slice qW mW cW)).set 1 (.slice fW kW dW)).set 2 (.slice tW iW eW))
          exact ⟨_, _, _, _, _, _, _, _, _, _, rfl, rfl, hrow, ((how.keep hba).box rb).held.wide (Nat.zero_le _) (Nat.le_refl _), fs, hga⟩
        · refine hd_cons (i := 8) rfl (by kernel_rfl) (fun K hK => ?_) hd_nil
          go_simp
          obtain ⟨wk5, hwa⟩ : ∃ W, W = wk2.alloc (.cells #[.slice none 0 0, .slice none 0 0, .slice none 0 0] 41) := ⟨_, rfl⟩
          rw [← hwa]
          have hba : Fresh wk2 wk5 := by rw [hwa]; exact fnew (frefl _) _
          have ra : RowAt wk5 wk2.heap.size 41 [.slice none 0 0, .slice none 0 0, .slice none 0 0] := by rw [hwa]; exact RowAt.new _ _ _
          have hga : w2.heap.size ≤ wk2.heap.size := fk2.size
          have fk5 := fstep fk2 hba
          clear hwa
          refine hK.out _ _ ?_ (fun hHeld => ?_)
          · exact ⟨fkeep fk5 a0_0, fkeep fk5 a0_1, fkeep fk5 a0_2, fkeep fk5 a1_0, fkeep fk5 a1_1, fkeep fk5 a1_2, fkeep fk5 a1_3, fkeep fk5 a1_4⟩
          clear hK K
          try simp only [Act.put, List.getElem_toArray, List.getElem_cons_succ, List.getElem_cons_zero, List.setIfInBounds_toArray, List.set_cons_zero, List.set_cons_succ]
          refine hd_one (i := 4) rfl (by kernel_rfl) (by kernel_rfl) (fun K hK => ?_)
          go_simp
          go_at_call 25
          have hcc := specAddLight_any _ x0 _ x1 _ ((hy0.keep hb1).keep hba) (hy1.keep hba)
          rw [← HR0.out, ← HR1.out] at hcc
          refine hcc.mono ?_
          clear hcc
          rintro e wk6 ⟨vW, rfl, how, hbr⟩
          obtain ⟨qW, mW, cW, fW, kW, dW, tW, iW, eW, hvv⟩ := how.shape
          subst hvv
          have fk6 := fstep fk5 hbr
          go_wp2_with fail
          refine hK.out _ _ ?_ (fun hHeld => ?_)
          · exact ⟨fkeep fk6 a0_0, fkeep fk6 a0_1, fkeep fk6 a0_2, fkeep fk6 a1_0, fkeep fk6 a1_1, fkeep fk6 a1_2, fkeep fk6 a1_3, fkeep fk6 a1_4⟩
          clear hK K
          try simp only [Act.put, List.getElem_toArray, List.getElem_cons_succ, List.getElem_cons_zero, List.setIfInBounds_toArray, List.set_cons_zero, List.set_cons_succ]
          refine hd_take (i := 5) (v := ?_) rfl (by kernel_rfl) (by kernel_rfl) (by kernel_rfl) (by kernel_rfl) (fun _ _ _ h => h) (by assumption) (Or.inl ⟨by rfl, ?_⟩) ?_
          rotate_left
          · (intro w hSw; (try dsimp only at hSw); go_simp; first | done | with_reducible rfl)
          try simp only [Act.put, List.getElem_toArray, List.getElem_cons_succ, List.getElem_cons_zero, List.setIfInBounds_toArray, List.set_cons_zero, List.set_cons_succ]
          refine hd_take (i := 6) (v := ?_) rfl (by kernel_rfl) (by kernel_rfl) (by kernel_rfl) (by kernel_rfl) (fun _ _ _ h => h) (by assumption) (Or.inl ⟨by rfl, ?_⟩) ?_
          rotate_left
          · (intro w hSw; (try dsimp only at hSw); go_simp; first | done | with_reducible rfl)
          try simp only [Act.put, List.getElem_toArray, List.getElem_cons_succ, List.getElem_cons_zero, List.setIfInBounds_toArray, List.set_cons_zero, List.set_cons_succ]
          refine hd_take (i := 7) (v := ?_) rfl (by kernel_rfl) (by kernel_rfl) (by kernel_rfl) (by kernel_rfl) (fun _ _ _ h => h) (by assumption) (Or.inl ⟨by rfl, ?_⟩) ?_
          rotate_left
          · (intro w hSw; (try dsimp only at hSw); go_simp; first | done | with_reducible rfl)
          try simp only [Act.put, List.getElem_toArray, List.getElem_cons_succ, List.getElem_cons_zero, List.setIfInBounds_toArray, List.set_cons_zero, List.set_cons_succ]
          have rb := (ra.keep hbr)
          have z0 := rb.cell (i := 0) rfl
          have z1 := rb.cell (i := 1) rfl
          have z2 := rb.cell (i := 2) rfl
          have u0 := rb.frozen 0
          have u1 := rb.frozen 1
          have u2 := rb.frozen 2
          have fs := (fset (fset (fset fk6 hga (o := 0) (.slice qW mW cW)) hga (o := 1) (.slice fW kW dW)) hga (o := 2) (.slice tW iW eW))
          refine hd_one (i := 9) rfl (by kernel_rfl) (by kernel_rfl) (fun K hK => ?_)
          (go_simp)
          refine hK.out _ _ ?_ (fun hHeld => ?_)
          · exact ⟨fkeep fs a0_0, fkeep fs a0_1, fkeep fs a0_2, fkeep fs a1_0, fkeep fs a1_1, fkeep fs a1_2, fkeep fs a1_3, fkeep fs a1_4⟩
          clear hK K
          try simp only [Act.put, List.getElem_toArray, List.getElem_cons_succ, List.getElem_cons_zero, List.setIfInBounds_toArray, List.set_cons_zero, List.set_cons_succ]
          refine hd_done (by kernel_rfl) ?_
          clear hHeld
          simp only [List.drop_succ_cons, List.drop_zero]
          go_wp2_with fail
          go_meet
          have hrow := (((rb.set 0 (.slice qW mW cW)).set 1 (.slice fW kW dW)).set 2 (.slice tW iW eW))
          exact ⟨_, _, _, _, _, _, _, _, _, _, rfl, rfl, hrow, (how.box rb).held.wide (Nat.zero_le _) (Nat.le_refl _), fs, hga⟩
      · refine hd_cons (i := 8) rfl (by kernel_rfl) (fun K hK => ?_) hd_nil
        go_simp
        obtain ⟨wk7, hwa⟩ : ∃ W, W = wk1.alloc (.cells #[.slice none 0 0, .slice none 0 0, .slice none 0 0] 41) := ⟨_, rfl⟩
        rw [← hwa]
        have hba : Fresh wk1 wk7 := by rw [hwa]; exact fnew (frefl _) _
        have ra : RowAt wk7 wk1.heap.size 41 [.slice none 0 0, .slice none 0 0, .slice none 0 0] := by rw [hwa]; exact RowAt.new _ _ _
        have hga : w2.heap.size ≤ wk1.heap.size := fk1.size
        have fk7 := fstep fk1 hba
        clear hwa
        refine hK.out _ _ ?_ (fun hHeld => ?_)
        · exact ⟨fkeep fk7 a0_0, fkeep fk7 a0_1, fkeep fk7 a0_2, fkeep fk7 a1_0, fkeep fk7 a1_1, fkeep fk7 a1_2, fkeep fk7 a1_3, fkeep fk7 a1_4⟩
        clear hK K
        try simp only [Act.put, List.getElem_toArray, List.getElem_cons_succ, List.getElem_cons_zero, List.setIfInBounds_toArray, List.set_cons_zero, List.set_cons_succ]
        refine hd_one (i := 3) rfl (by kernel_rfl) (by kernel_rfl) (fun K hK => ?_)
        go_simp
        go_at_call 26
        refine (toLight_k _ x1 _ (HI1.out.keep (fstep HF.out fk7))).mono ?_
        rintro e wk8 ⟨y1, rfl, hy1, hb1⟩
        have fk8 := fstep fk7 hb1
        go_wp2_with fail
        refine hK.out _ _ ?_ (fun hHeld => ?_)
        · exact ⟨fkeep fk8 a0_0, fkeep fk8 a0_1, fkeep fk8 a0_2, fkeep fk8 a1_0, fkeep fk8 a1_1, fkeep fk8 a1_2, fkeep fk8 a1_3, fkeep fk8 a1_4⟩
        clear hK K
        try simp only [Act.put, List.getElem_toArray, List.getElem_cons_succ, List.getElem_cons_zero, List.setIfInBounds_toArray, List.set_cons_zero, List.set_cons_succ]
        refine hd_one (i := 4) rfl (by kernel_rfl) (by kernel_rfl) (fun K hK => ?_)
        go_simp
        go_at_call 25
        have hcc := specAddLight_any _ x0 _ x1 _ ((hy0.keep hba).keep hb1) hy1
        rw [← HR0.out, ← HR1.out] at hcc
        refine hcc.mono ?_
        clear hcc
        rintro e wk9 ⟨vW, rfl, how, hbr⟩
        obtain ⟨qW, mW, cW, fW, kW, dW, tW, iW, eW, hvv⟩ := how.shape
        subst hvv
        have fk9 := fstep fk8 hbr
        go_wp2_with fail
        refine hK.out _ _ ?_ (fun hHeld => ?_)
        · exact ⟨fkeep fk9 a0_0, fkeep fk9 a0_1, fkeep fk9 a0_2, fkeep fk9 a1_0, fkeep fk9 a1_1, fkeep fk9 a1_2, fkeep fk9 a1_3, fkeep fk9 a1_4⟩
        clear hK K
        try simp only [Act.put, List.getElem_toArray, List.getElem_cons_succ, List.getElem_cons_zero, List.setIfInBounds_toArray, List.set_cons_zero, List.set_cons_succ]
        refine hd_take (i := 5) (v := ?_) rfl (by kernel_rfl) (by kernel_rfl) (by kernel_rfl) (by kernel_rfl) (fun _ _ _ h => h) (by assumption) (Or.inl ⟨by rfl, ?_⟩) ?_
        rotate_left
        · (intro w hSw; (try dsimp only at hSw); go_simp; first | done | with_reducible rfl)
        try simp only [Act.put, List.getElem_toArray, List.getElem_cons_succ, List.getElem_cons_zero, List.setIfInBounds_toArray, List.set_cons_zero, List.set_cons_succ]
        refine hd_take (i := 6) (v := ?_) rfl (by kernel_rfl) (by kernel_rfl) (by kernel_rfl) (by kernel_rfl) (fun _ _ _ h => h) (by assumption) (Or.inl ⟨by rfl, ?_⟩) ?_
        rotate_left
        · (intro w hSw; (try dsimp only at hSw); go_simp; first | done | with_reducible rfl)
        try simp only [Act.put, List.getElem_toArray, List.getElem_cons_succ, List.getElem_cons_zero, List.setIfInBounds_toArray, List.set_cons_zero, List.set_cons_succ]
        refine hd_take (i := 7) (v := ?_) rfl (by kernel_rfl) (by kernel_rfl) (by kernel_rfl) (by kernel_rfl) (fun _ _ _ h => h) (by assumption) (Or.inl ⟨by rfl, ?_⟩) ?_
        rotate_left
        · (intro w hSw; (try dsimp only at hSw); go_simp; first | done | with_reducible rfl)
        try simp only [Act.put, List.getElem_toArray, List.getElem_cons_succ, List.getElem_cons_zero, List.setIfInBounds_toArray, List.set_cons_zero, List.set_cons_succ]
        have rb := ((ra.keep hb1).keep hbr)
        have z0 := rb.cell (i := 0) rfl
        have z1 := rb.cell (i := 1) rfl
        have z2 := rb.cell (i := 2) rfl
        have u0 := rb.frozen 0
        have u1 := rb.frozen 1
        have u2 := rb.frozen 2
        have fs := (fset (fset (fset fk9 hga (o := 0) (.slice qW mW cW)) hga (o := 1) (.slice fW kW dW)) hga (o := 2) (.slice tW iW eW))
        refine hd_one (i := 9) rfl (by kernel_rfl) (by kernel_rfl) (fun K hK => ?_)
        (go_simp)
        refine hK.out _ _ ?_ (fun hHeld => ?_)
        · exact ⟨fkeep fs a0_0, fkeep fs a0_1, fkeep fs a0_2, fkeep fs a1_0, fkeep fs a1_1, fkeep fs a1_2, fkeep fs a1_3, fkeep fs a1_4⟩
        clear hK K
        try simp only [Act.put, List.getElem_toArray, List.getElem_cons_succ, List.getElem_cons_zero, List.setIfInBounds_toArray, List.set_cons_zero, List.set_cons_succ]
        refine hd_done (by kernel_rfl) ?_
        clear hHeld
        simp only [List.drop_succ_cons, List.drop_zero]
        go_wp2_with fail
        go_meet
        have hrow := (((rb.set 0 (.slice qW mW cW)).set 1 (.slice fW kW dW)).set 2 (.slice tW iW eW))
        exact ⟨_, _, _, _, _, _, _, _, _, _, rfl, rfl, hrow, (how.box rb).held.wide (Nat.zero_le _) (Nat.le_refl _), fs, hga⟩
    · refine hd_cons (i := 8) rfl (by kernel_rfl) (fun K hK => ?_) hd_nil
      go_simp
      obtain ⟨wk10, hwa⟩ : ∃ W, W = Wz.alloc (.cells #[.slice none 0 0, .slice none 0 0, .slice none 0 0] 41) := ⟨_, rfl⟩
      rw [← hwa]
      have hba : Fresh Wz wk10 := by rw [hwa]; exact fnew (frefl _) _
      have ra : RowAt wk10 Wz.heap.size 41 [.slice none 0 0, .slice none 0 0, .slice none 0 0] := by rw [hwa]; exact RowAt.new _ _ _
      have hga : w2.heap.size ≤ Wz.heap.size := f0.size
      have fk10 := fstep f0 hba
      clear hwa
      refine hK.out _ _ ?_ (fun hHeld => ?_)
      · exact ⟨fkeep fk10 a0_0, fkeep fk10 a0_1, fkeep fk10 a0_2, fkeep fk10 a1_0, fkeep fk10 a1_1, fkeep fk10 a1_2, fkeep fk10 a1_3, fkeep fk10 a1_4⟩
      clear hK K
      try simp only [Act.put, List.getElem_toArray, List.getElem_cons_succ, List.getElem_cons_zero, List.setIfInBounds_toArray, List.set_cons_zero, List.set_cons_succ]
      refine hd_one (i := 1) rfl (by kernel_rfl) (by kernel_rfl) (fun K hK => ?_)
      go_simp
      go_at_call 9
      refine (toPlan_k _ x0 _ (HI0.out.keep (fstep HF.out fk10))).mono ?_
      rintro e wk11 ⟨y0, rfl, hy0, hb0⟩
      have fk11 := fstep fk10 hb0
      go_wp2_with fail
      refine hK.out _ _ ?_ (fun hHeld => ?_)
      · exact ⟨fkeep fk11 a0_0, fkeep fk11 a0_1, fkeep fk11 a0_2, fkeep fk11 a1_0, fkeep fk11 a1_1, fkeep fk11 a1_2, fkeep fk11 a1_3, fkeep fk11 a1_4⟩
      clear hK K
      try simp only [Act.put, List.getElem_toArray, List.getElem_cons_succ, List.getElem_cons_zero, List.setIfInBounds_toArray, List.set_cons_zero, List.set_cons_succ]
      refine hd_one (i := 3) rfl (by kernel_rfl) (by kernel_rfl) (fun K hK => ?_)
      go_simp
      go_at_call 26
      refine (toLight_k _ x1 _ (HI1.out.keep (fstep HF.out fk11))).mono ?_
      rintro e wk12 ⟨y1, rfl, hy1, hb1⟩
      have fk12 := fstep fk11 hb1
      go_wp2_with fail
      refine hK.out _ _ ?_ (fun hHeld => ?_)
      · exact ⟨fkeep fk12 a0_0, fkeep fk12 a0_1, fkeep fk12 a0_2, fkeep fk12 a1_0, fkeep fk12 a1_1, fkeep fk12 a1_2, fkeep fk12 a1_3, fkeep fk12 a1_4⟩
      clear hK K
      try simp only [Act.put, List.getElem_toArray, List.getElem_cons_succ, List.getElem_cons_zero, List.setIfInBounds_toArray, List.set_cons_zero, List.set_cons_succ]
      refine hd_one (i := 4) rfl (by kernel_rfl) (by kernel_rfl) (fun K hK => ?_)
      go_simp
      go_at_call 25
      have hcc := specAddLight_any _ x0 _ x1 _ (hy0.keep hb1) hy1
      rw [← HR0.out, ← HR1.out] at hcc
      refine hcc.mono ?_
      clear hcc
      rintro e wk13 ⟨vW, rfl, how, hbr⟩
      obtain ⟨qW, mW, cW, fW, kW, dW, tW, iW, eW, hvv⟩ := how.shape
      subst hvv
      have fk13 := fstep fk12 hbr
      go_wp2_with fail
      refine hK.out _ _ ?_ (fun hHeld => ?_)
      · exact ⟨fkeep fk13 a0_0, fkeep fk13 a0_1, fkeep fk13 a0_2, fkeep fk13 a1_0, fkeep fk13 a1_1, fkeep fk13 a1_2, fkeep fk13 a1_3, fkeep fk13 a1_4⟩
      clear hK K
      try simp only [Act.put, List.getElem_toArray, List.getElem_cons_succ, List.getElem_cons_zero, List.setIfInBounds_toArray, List.set_cons_zero, List.set_cons_succ]
      refine hd_take (i := 5) (v := ?_) rfl (by kernel_rfl) (by kernel_rfl) (by kernel_rfl) (by kernel_rfl) (fun _ _ _ h => h) (by assumption) (Or.inl ⟨by rfl, ?_⟩) ?_
      rotate_left
      · (intro w hSw; (try dsimp only at hSw); go_simp; first | done | with_reducible rfl)
      try simp only [Act.put, List.getElem_toArray, List.getElem_cons_succ, List.getElem_cons_zero, List.setIfInBounds_toArray, List.set_cons_zero, List.set_cons_succ]
      refine hd_take (i := 6) (v := ?_) rfl (by kernel_rfl) (by kernel_rfl) (by kernel_rfl) (by kernel_rfl) (fun _ _ _ h => h) (by assumption) (Or.inl ⟨by rfl, ?_⟩) ?_
      rotate_left
      · (intro w hSw; (try dsimp only at hSw); go_simp; first | done | with_reducible rfl)
      try simp only [Act.put, List.getElem_toArray, List.getElem_cons_succ, List.getElem_cons_zero, List.setIfInBounds_toArray, List.set_cons_zero, List.set_cons_succ]
      refine hd_take (i := 7) (v := ?_) rfl (by kernel_rfl) (by kernel_rfl) (by kernel_rfl) (by kernel_rfl) (fun _ _ _ h => h) (by assumption) (Or.inl ⟨by rfl, ?_⟩) ?_
      rotate_left
      · (intro w hSw; (try dsimp only at hSw); go_simp; first | done | with_reducible rfl)
      try simp only [Act.put, List.getElem_toArray, List.getElem_cons_succ, List.getElem_cons_zero, List.setIfInBounds_toArray, List.set_cons_zero, List.set_cons_succ]
      have rb := (((ra.keep hb0).keep hb1).keep hbr)
      have z0 := rb.cell (i := 0) rfl
      have z1 := rb.cell (i := 1) rfl
      have z2 := rb.cell (i := 2) rfl
      have u0 := rb.frozen 0
      have u1 := rb.frozen 1
      have u2 := rb.frozen 2
      have fs := (fset (fset (fset fk13 hga (o := 0) (.slice qW mW cW)) hga (o := 1) (.slice fW kW dW)) hga (o := 2) (.slice tW iW eW))
      refine hd_one (i := 9) rfl (by kernel_rfl) (by kernel_rfl) (fun K hK => ?_)
      (go_simp)
      refine hK.out _ _ ?_ (fun hHeld => ?_)
      · exact ⟨fkeep fs a0_0, fkeep fs a0_1, fkeep fs a0_2, fkeep fs a1_0, fkeep fs a1_1, fkeep fs a1_2, fkeep fs a1_3, fkeep fs a1_4⟩
      clear hK K
      try simp only [Act.put, List.getElem_toArray, List.getElem_cons_succ, List.getElem_cons_zero, List.setIfInBounds_toArray, List.set_cons_zero, List.set_cons_succ]
      refine hd_done (by kernel_rfl) ?_
      clear hHeld
      simp only [List.drop_succ_cons, List.drop_zero]
      go_wp2_with fail
      go_meet
      have hrow := (((rb.set 0 (.slice qW mW cW)).set 1 (.slice fW kW dW)).set 2 (.slice tW iW eW))
      exact ⟨_, _, _, _, _, _, _, _, _, _, rfl, rfl, hrow, (how.box rb).held.wide (Nat.zero_le _) (Nat.le_refl _), fs, hga⟩
  case rest =>
    obtain ⟨gbW, qW, mW, cW, fW, kW, dW, tW, iW, eW, rfl, rfl, hrowW, howW, hb, hgbW⟩ := hcut
    have HRW := Lib.hid howW
    have bW_0 := hrowW.cell (i := 0) rfl
    have bW_1 := hrowW.cell (i := 1) rfl
    have bW_2 := hrowW.cell (i := 2) rfl
    have HSZ2 := Lib.hid (show gbW < wc.heap.size from hrowW.lt)
    have HSZ3 := Lib.hid hgbW
    obtain ⟨wcW, hwc⟩ : ∃ W, W = wc := ⟨_, rfl⟩
    subst hwc
    clear hrowW howW hgbW
    have HSZ4 := Lib.hid (hb.size)
    replace a0_0 := fkeep hb a0_0
    replace a0_1 := fkeep hb a0_1
    replace a0_2 := fkeep hb a0_2
    replace a1_0 := fkeep hb a1_0
    replace a1_1 := fkeep hb a1_1
    replace a1_2 := fkeep hb a1_2
    replace a1_3 := fkeep hb a1_3
    replace a1_4 := fkeep hb a1_4
    have HF := Lib.hid (fstep HF.out hb)
    clear hb
    go_wp2_with fail
    refine (toPlan_o _ x0 _ (HI0.out.keep HF.out)).mono ?_
    rintro e w3 ⟨z0, rfl, hy, hm, hb⟩
    have HZ0 := Lib.hid hy
    have HM0 := Lib.hid hm
    clear hy hm
    have HSZ5 := Lib.hid (hb.size)
    replace a0_0 := fkeep hb a0_0
    replace a0_1 := fkeep hb a0_1
    replace a0_2 := fkeep hb a0_2
    replace a1_0 := fkeep hb a1_0
    replace a1_1 := fkeep hb a1_1
    replace a1_2 := fkeep hb a1_2
    replace a1_3 := fkeep hb a1_3
    replace a1_4 := fkeep hb a1_4
    replace bW_0 := fkeep hb bW_0
    replace bW_1 := fkeep hb bW_1
    replace bW_2 := fkeep hb bW_2
    have HF := Lib.hid (fstep HF.out hb)
    replace HRW := Lib.hid (HRW.out.keep hb)
    clear hb
    obtain ⟨q0x, m0x, c0x, p0x, k0x, d0x, r0x, i0x, e0x, hv⟩ := HZ0.out.shape
    subst hv
    obtain ⟨Xx0, hX⟩ : ∃ X, X = w3.alloc (.cells #[.slice q0x m0x c0x, .slice p0x k0x d0x, .slice r0x i0x e0x] 41) := ⟨_, rfl⟩
    have hb : Fresh w3 Xx0 := by rw [hX]; exact fnew (frefl _) _
    have HSZ6 := Lib.hid (show Xx0.heap.size = w3.heap.size + 1 by rw [hX]; simp)
    have La0_0 := fkeep (fnew (frefl w3) (.cells #[.slice q0x m0x c0x, .slice p0x k0x d0x, .slice r0x i0x e0x] 41)) a0_0
    have La0_1 := fkeep (fnew (frefl w3) (.cells #[.slice q0x m0x c0x, .slice p0x k0x d0x, .slice r0x i0x e0x] 41)) a0_1
    have La0_2 := fkeep (fnew (frefl w3) (.cells #[.slice q0x m0x c0x, .slice p0x k0x d0x, .slice r0x i0x e0x] 41)) a0_2
    have La1_0 := fkeep (fnew (frefl w3) (.cells #[.slice q0x m0x c0x, .slice p0x k0x d0x, .slice r0x i0x e0x] 41)) a1_0
    have La1_1 := fkeep (fnew (frefl w3) (.cells #[.slice q0x m0x c0x, .slice p0x k0x d0x, .slice r0x i0x e0x] 41)) a1_1
    have La1_2 := fkeep (fnew (frefl w3) (.cells #[.slice q0x m0x c0x, .slice p0x k0x d0x, .slice r0x i0x e0x] 41)) a1_2
    have La1_3 := fkeep (fnew (frefl w3) (.cells #[.slice q0x m0x c0x, .slice p0x k0x d0x, .slice r0x i0x e0x] 41)) a1_3
    have La1_4 := fkeep (fnew (frefl w3) (.cells #[.slice q0x m0x c0x, .slice p0x k0x d0x, .slice r0x i0x e0x] 41)) a1_4
    have LbW_0 := fkeep (fnew (frefl w3) (.cells #[.slice q0x m0x c0x, .slice p0x k0x d0x, .slice r0x i0x e0x] 41)) bW_0
    have LbW_1 := fkeep (fnew (frefl w3) (.cells #[.slice q0x m0x c0x, .slice p0x k0x d0x, .slice r0x i0x e0x] 41)) bW_1
    have LbW_2 := fkeep (fnew (frefl w3) (.cells #[.slice q0x m0x c0x, .slice p0x k0x d0x, .slice r0x i0x e0x] 41)) bW_2
    have c0_0 : Xx0.cell? ⟨w3.heap.size, 0, none⟩ = some (.slice q0x m0x c0x) := by rw [hX]; exact (RowAt.new w3 41 [.slice q0x m0x c0x, .slice p0x k0x d0x, .slice r0x i0x e0x]).cell (i := 0) rfl
    have c0_1 : Xx0.cell? ⟨w3.heap.size, 1, none⟩ = some (.slice p0x k0x d0x) := by rw [hX]; exact (RowAt.new w3 41 [.slice q0x m0x c0x, .slice p0x k0x d0x, .slice r0x i0x e0x]).cell (i := 1) rfl
    have c0_2 : Xx0.cell? ⟨w3.heap.size, 2, none⟩ = some (.slice r0x i0x e0x) := by rw [hX]; exact (RowAt.new w3 41 [.slice q0x m0x c0x, .slice p0x k0x d0x, .slice r0x i0x e0x]).cell (i := 2) rfl
    replace a0_0 := fkeep hb a0_0
    replace a0_1 := fkeep hb a0_1
    replace a0_2 := fkeep hb a0_2
    replace a1_0 := fkeep hb a1_0
    replace a1_1 := fkeep hb a1_1
    replace a1_2 := fkeep hb a1_2
    replace a1_3 := fkeep hb a1_3
    replace a1_4 := fkeep hb a1_4
    replace bW_0 := fkeep hb bW_0
    replace bW_1 := fkeep hb bW_1
    replace bW_2 := fkeep hb bW_2
    have HF := Lib.hid (fstep HF.out hb)
    replace HRW := Lib.hid (HRW.out.keep hb)
    replace HZ0 := Lib.hid (HZ0.out.keep hb)
    replace HM0 := Lib.hid (HM0.out.keep hb)
    clear hb
    have Ha0_0 := Lib.hid a0_0
    have Ha0_1 := Lib.hid a0_1
    have Ha0_2 := Lib.hid a0_2
    have Ha1_0 := Lib.hid a1_0
    have Ha1_1 := Lib.hid a1_1
    have Ha1_2 := Lib.hid a1_2
    have Ha1_3 := Lib.hid a1_3
    have Ha1_4 := Lib.hid a1_4
    have HbW_0 := Lib.hid bW_0
    have HbW_1 := Lib.hid bW_1
    have HbW_2 := Lib.hid bW_2
    have Hc0_0 := Lib.hid c0_0
    have Hc0_1 := Lib.hid c0_1
    have Hc0_2 := Lib.hid c0_2
    clear a0_0 a0_1 a0_2 a1_0 a1_1 a1_2 a1_3 a1_4 bW_0 bW_1 bW_2 c0_0 c0_1 c0_2
    have HXx0 := Lib.hid hX
    clear hX
    go_wp2_with fail
    rw [← HXx0.out]
    clear HXx0
    clear La0_0 La0_1 La0_2 La1_0 La1_1 La1_2 La1_3 La1_4 LbW_0 LbW_1 LbW_2
    have a0_0 := Ha0_0.out
    have a0_1 := Ha0_1.out
    have a0_2 := Ha0_2.out
    have a1_0 := Ha1_0.out
    have a1_1 := Ha1_1.out
    have a1_2 := Ha1_2.out
    have a1_3 := Ha1_3.out
    have a1_4 := Ha1_4.out
    have bW_0 := HbW_0.out
    have bW_1 := HbW_1.out
    have bW_2 := HbW_2.out
    have c0_0 := Hc0_0.out
    have c0_1 := Hc0_1.out
    have c0_2 := Hc0_2.out
    clear Ha0_0 Ha0_1 Ha0_2 Ha1_0 Ha1_1 Ha1_2 Ha1_3 Ha1_4 HbW_0 HbW_1 HbW_2 Hc0_0 Hc0_1 Hc0_2
    go_wp2_with fail
    refine (toLight_o _ x1 _ (HI1.out.keep HF.out)).mono ?_
    rintro e w4 ⟨z1, rfl, hy, hm, hb⟩
    have HZ1 := Lib.hid hy
    have HM1 := Lib.hid hm
    clear hy hm
    have HSZ7 := Lib.hid (hb.size)
    replace a0_0 := fkeep hb a0_0
    replace a0_1 := fkeep hb a0_1
    replace a0_2 := fkeep hb a0_2
    replace a1_0 := fkeep hb a1_0
    replace a1_1 := fkeep hb a1_1
    replace a1_2 := fkeep hb a1_2
    replace a1_3 := fkeep hb a1_3
    replace a1_4 := fkeep hb a1_4
    replace bW_0 := fkeep hb bW_0
    replace bW_1 := fkeep hb bW_1
    replace bW_2 := fkeep hb bW_2
    replace c0_0 := fkeep hb c0_0
    replace c0_1 := fkeep hb c0_1
    replace c0_2 := fkeep hb c0_2
    have HF := Lib.hid (fstep HF.out hb)
    replace HRW := Lib.hid (HRW.out.keep hb)
    replace HZ0 := Lib.hid (HZ0.out.keep hb)
    replace HM0 := Lib.hid (HM0.out.keep hb)
    clear hb
    obtain ⟨i1x, s1x, q1x, m1x, c1x, b1x, d1x, hv⟩ := HZ1.out.shape
    subst hv
    obtain ⟨Xx1, hX⟩ : ∃ X, X = w4.alloc (.cells #[.int .i64 i1x, .int .i64 s1x, .slice q1x m1x c1x, .int .i64 b1x, .int .i64 d1x] 69) := ⟨_, rfl⟩
    have hb : Fresh w4 Xx1 := by rw [hX]; exact fnew (frefl _) _
    have HSZ8 := Lib.hid (show Xx1.heap.size = w4.heap.size + 1 by rw [hX]; simp)
    have La0_0 := fkeep (fnew (frefl w4) (.cells #[.int .i64 i1x, .int .i64 s1x, .slice q1x m1x c1x, .int .i64 b1x, .int .i64 d1x] 69)) a0_0
    have La0_1 := fkeep (fnew (frefl w4) (.cells #[.int .i64 i1x, .int .i64 s1x, .slice q1x m1x c1x, .int .i64 b1x, .int .i64 d1x] 69)) a0_1
    have La0_2 := fkeep (fnew (frefl w4) (.cells #[.int .i64 i1x, .int .i64 s1x, .slice q1x m1x c1x, .int .i64 b1x, .int .i64 d1x] 69)) a0_2
    have La1_0 := fkeep (fnew (frefl w4) (.cells #[.int .i64 i1x, .int .i64 s1x, .slice q1x m1x c1x, .int .i64 b1x, .int .i64 d1x] 69)) a1_0
    have La1_1 := fkeep (fnew (frefl w4) (.cells #[.int .i64 i1x, .int .i64 s1x, .slice q1x m1x c1x, .int .i64 b1x, .int .i64 d1x] 69)) a1_1
    have La1_2 := fkeep (fnew (frefl w4) (.cells #[.int .i64 i1x, .int .i64 s1x, .slice q1x m1x c1x, .int .i64 b1x, .int .i64 d1x] 69)) a1_2
    have La1_3 := fkeep (fnew (frefl w4) (.cells #[.int .i64 i1x, .int .i64 s1x, .slice q1x m1x c1x, .int .i64 b1x, .int .i64 d1x] 69)) a1_3
    have La1_4 := fkeep (fnew (frefl w4) (.cells #[.int .i64 i1x, .int .i64 s1x, .slice q1x m1x c1x, .int .i64 b1x, .int .i64 d1x] 69)) a1_4
    have LbW_0 := fkeep (fnew (frefl w4) (.cells #[.int .i64 i1x, .int .i64 s1x, .slice q1x m1x c1x, .int .i64 b1x, .int .i64 d1x] 69)) bW_0
    have LbW_1 := fkeep (fnew (frefl w4) (.cells #[.int .i64 i1x, .int .i64 s1x, .slice q1x m1x c1x, .int .i64 b1x, .int .i64 d1x] 69)) bW_1
    have LbW_2 := fkeep (fnew (frefl w4) (.cells #[.int .i64 i1x, .int .i64 s1x, .slice q1x m1x c1x, .int .i64 b1x, .int .i64 d1x] 69)) bW_2
    have Lc0_0 := fkeep (fnew (frefl w4) (.cells #[.int .i64 i1x, .int .i64 s1x, .slice q1x m1x c1x, .int .i64 b1x, .int .i64 d1x] 69)) c0_0
    have Lc0_1 := fkeep (fnew (frefl w4) (.cells #[.int .i64 i1x, .int .i64 s1x, .slice q1x m1x c1x, .int .i64 b1x, .int .i64 d1x] 69)) c0_1
    have Lc0_2 := fkeep (fnew (frefl w4) (.cells #[.int .i64 i1x, .int .i64 s1x, .slice q1x m1x c1x, .int .i64 b1x, .int .i64 d1x] 69)) c0_2
    have c1_0 : Xx1.cell? ⟨w4.heap.size, 0, none⟩ = some (.int .i64 i1x) := by rw [hX]; exact (RowAt.new w4 69 [.int .i64 i1x, .int .i64 s1x, .slice q1x m1x c1x, .int .i64 b1x, .int .i64 d1x]).cell (i := 0) rfl
    have c1_1 : Xx1.cell? ⟨w4.heap.size, 1, none⟩ = some (.int .i64 s1x) := by rw [hX]; exact (RowAt.new w4 69 [.int .i64 i1x, .int .i64 s1x, .slice q1x m1x c1x, .int .i64 b1x, .int .i64 d1x]).cell (i := 1) rfl
    have c1_2 : Xx1.cell? ⟨w4.heap.size, 2, none⟩ = some (.slice q1x m1x c1x) := by rw [hX]; exact (RowAt.new w4 69 [.int .i64 i1x, .int .i64 s1x, .slice q1x m1x c1x, .int .i64 b1x, .int .i64 d1x]).cell (i := 2) rfl
    have c1_3 : Xx1.cell? ⟨w4.heap.size, 3, none⟩ = some (.int .i64 b1x) := by rw [hX]; exact (RowAt.new w4 69 [.int .i64 i1x, .int .i64 s1x, .slice q1x m1x c1x, .int .i64 b1x, .int .i64 d1x]).cell (i := 3) rfl
    have c1_4 : Xx1.cell? ⟨w4.heap.size, 4, none⟩ = some (.int .i64 d1x) := by rw [hX]; exact (RowAt.new w4 69 [.int .i64 i1x, .int .i64 s1x, .slice q1x m1x c1x, .int .i64 b1x, .int .i64 d1x]).cell (i := 4) rfl
    replace a0_0 := fkeep hb a0_0
    replace a0_1 := fkeep hb a0_1
    replace a0_2 := fkeep hb a0_2
    replace a1_0 := fkeep hb a1_0
    replace a1_1 := fkeep hb a1_1
    replace a1_2 := fkeep hb a1_2
    replace a1_3 := fkeep hb a1_3
    replace a1_4 := fkeep hb a1_4
    replace bW_0 := fkeep hb bW_0
    replace bW_1 := fkeep hb bW_1
    replace bW_2 := fkeep hb bW_2
    replace c0_0 := fkeep hb c0_0
    replace c0_1 := fkeep hb c0_1
    replace c0_2 := fkeep hb c0_2
    have HF := Lib.hid (fstep HF.out hb)
    replace HRW := Lib.hid (HRW.out.keep hb)
    replace HZ0 := Lib.hid (HZ0.out.keep hb)
    replace HM0 := Lib.hid (HM0.out.keep hb)
    replace HZ1 := Lib.hid (HZ1.out.keep hb)
    replace HM1 := Lib.hid (HM1.out.keep hb)
    clear hb
    have Ha0_0 := Lib.hid a0_0
    have Ha0_1 := Lib.hid a0_1
    have Ha0_2 := Lib.hid a0_2
    have Ha1_0 := Lib.hid a1_0
    have Ha1_1 := Lib.hid a1_1
    have Ha1_2 := Lib.hid a1_2
    have Ha1_3 := Lib.hid a1_3
    have Ha1_4 := Lib.hid a1_4
    have HbW_0 := Lib.hid bW_0
    have HbW_1 := Lib.hid bW_1
    have HbW_2 := Lib.hid bW_2
    have Hc0_0 := Lib.hid c0_0
    have Hc0_1 := Lib.hid c0_1
    have Hc0_2 := Lib.hid c0_2
    have Hc1_0 := Lib.hid c1_0
    have Hc1_1 := Lib.hid c1_1
    have Hc1_2 := Lib.hid c1_2
    have Hc1_3 := Lib.hid c1_3
    have Hc1_4 := Lib.hid c1_4
    clear a0_0 a0_1 a0_2 a1_0 a1_1 a1_2 a1_3 a1_4 bW_0 bW_1 bW_2 c0_0 c0_1 c0_2 c1_0 c1_1 c1_2 c1_3 c1_4
    have HXx1 := Lib.hid hX
    clear hX
    go_wp2_with fail
    rw [← HXx1.out]
    clear HXx1
    clear La0_0 La0_1 La0_2 La1_0 La1_1 La1_2 La1_3 La1_4 LbW_0 LbW_1 LbW_2 Lc0_0 Lc0_1 Lc0_2
    have a0_0 := Ha0_0.out
    have a0_1 := Ha0_1.out
    have a0_2 := Ha0_2.out
    have a1_0 := Ha1_0.out
    have a1_1 := Ha1_1.out
    have a1_2 := Ha1_2.out
    have a1_3 := Ha1_3.out
    have a1_4 := Ha1_4.out
    have bW_0 := HbW_0.out
    have bW_1 := HbW_1.out
    have bW_2 := HbW_2.out
    have c0_0 := Hc0_0.out
    have c0_1 := Hc0_1.out
    have c0_2 := Hc0_2.out
    have c1_0 := Hc1_0.out
    have c1_1 := Hc1_1.out
    have c1_2 := Hc1_2.out
    have c1_3 := Hc1_3.out
    have c1_4 := Hc1_4.out
    clear Ha0_0 Ha0_1 Ha0_2 Ha1_0 Ha1_1 Ha1_2 Ha1_3 Ha1_4 HbW_0 HbW_1 HbW_2 Hc0_0 Hc0_1 Hc0_2 Hc1_0 Hc1_1 Hc1_2 Hc1_3 Hc1_4
    go_wp2_with fail
    have hcc := implAddLight_any _ x0 _ x1 _ HZ0.out HZ1.out
    rw [← HR0.out, ← HR1.out] at hcc
    refine (hcc).mono ?_
    clear hcc
    rintro e w5 ⟨vG, rfl, how, hb⟩
    obtain ⟨qG, mG, cG, fG, kG, dG, tG, iG, eG, hvv⟩ := how.shape
    subst hvv
    have HRG := Lib.hid how.held
    clear how
    have HSZ9 := Lib.hid (hb.size)
    replace a0_0 := fkeep hb a0_0
    replace a0_1 := fkeep hb a0_1
    replace a0_2 := fkeep hb a0_2
    replace a1_0 := fkeep hb a1_0
    replace a1_1 := fkeep hb a1_1
    replace a1_2 := fkeep hb a1_2
    replace a1_3 := fkeep hb a1_3
    replace a1_4 := fkeep hb a1_4
    replace bW_0 := fkeep hb bW_0
    replace bW_1 := fkeep hb bW_1
    replace bW_2 := fkeep hb bW_2
    replace c0_0 := fkeep hb c0_0
    replace c0_1 := fkeep hb c0_1
    replace c0_2 := fkeep hb c0_2
    replace c1_0 := fkeep hb c1_0
    replace c1_1 := fkeep hb c1_1
    replace c1_2 := fkeep hb c1_2
    replace c1_3 := fkeep hb c1_3
    replace c1_4 := fkeep hb c1_4
    have HF := Lib.hid (fstep HF.out hb)
    replace HRW := Lib.hid (HRW.out.keep hb)
    replace HZ0 := Lib.hid (HZ0.out.keep hb)
    replace HM0 := Lib.hid (HM0.out.keep hb)
    replace HZ1 := Lib.hid (HZ1.out.keep hb)
    replace HM1 := Lib.hid (HM1.out.keep hb)
    clear hb
    obtain ⟨XG, hX⟩ : ∃ X, X = w5.alloc (.cells #[.slice qG mG cG, .slice fG kG dG, .slice tG iG eG] 41) := ⟨_, rfl⟩
    have hb : Fresh w5 XG := by rw [hX]; exact fnew (frefl _) _
    have HSZ10 := Lib.hid (show XG.heap.size = w5.heap.size + 1 by rw [hX]; simp)
    have La0_0 := fkeep (fnew (frefl w5) (.cells #[.slice qG mG cG, .slice fG kG dG, .slice tG iG eG] 41)) a0_0
    have La0_1 := fkeep (fnew (frefl w5) (.cells #[.slice qG mG cG, .slice fG kG dG, .slice tG iG eG] 41)) a0_1
    have La0_2 := fkeep (fnew (frefl w5) (.cells #[.slice qG mG cG, .slice fG kG dG, .slice tG iG eG] 41)) a0_2
    have La1_0 := fkeep (fnew (frefl w5) (.cells #[.slice qG mG cG, .slice fG kG dG, .slice tG iG eG] 41)) a1_0
    have La1_1 := fkeep (fnew (frefl w5) (.cells #[.slice qG mG cG, .slice fG kG dG, .slice tG iG eG] 41)) a1_1
    have La1_2 := fkeep (fnew (frefl w5) (.cells #[.slice qG mG cG, .slice fG kG dG, .slice tG iG eG] 41)) a1_2
    have La1_3 := fkeep (fnew (frefl w5) (.cells #[.slice qG mG cG, .slice fG kG dG, .slice tG iG eG] 41)) a1_3
    have La1_4 := fkeep (fnew (frefl w5) (.cells #[.slice qG mG cG, .slice fG kG dG, .slice tG iG eG] 41)) a1_4
    have LbW_0 := fkeep (fnew (frefl w5) (.cells #[.slice qG mG cG, .slice fG kG dG, .slice tG iG eG] 41)) bW_0
    have LbW_1 := fkeep (fnew (frefl w5) (.cells #[.slice qG mG cG, .slice fG kG dG, .slice tG iG eG] 41)) bW_1
    have LbW_2 := fkeep (fnew (frefl w5) (.cells #[.slice qG mG cG, .slice fG kG dG, .slice tG iG eG] 41)) bW_2
    have Lc0_0 := fkeep (fnew (frefl w5) (.cells #[.slice qG mG cG, .slice fG kG dG, .slice tG iG eG] 41)) c0_0
    have Lc0_1 := fkeep (fnew (frefl w5) (.cells #[.slice qG mG cG, .slice fG kG dG, .slice tG iG eG] 41)) c0_1
    have Lc0_2 := fkeep (fnew (frefl w5) (.cells #[.slice qG mG cG, .slice fG kG dG, .slice tG iG eG] 41)) c0_2
    have Lc1_0 := fkeep (fnew (frefl w5) (.cells #[.slice qG mG cG, .slice fG kG dG, .slice tG iG eG] 41)) c1_0
    have Lc1_1 := fkeep (fnew (frefl w5) (.cells #[.slice qG mG cG, .slice fG kG dG, .slice tG iG eG] 41)) c1_1
    have Lc1_2 := fkeep (fnew (frefl w5) (.cells #[.slice qG mG cG, .slice fG kG dG, .slice tG iG eG] 41)) c1_2
    have Lc1_3 := fkeep (fnew (frefl w5) (.cells #[.slice qG mG cG, .slice fG kG dG, .slice tG iG eG] 41)) c1_3
    have Lc1_4 := fkeep (fnew (frefl w5) (.cells #[.slice qG mG cG, .slice fG kG dG, .slice tG iG eG] 41)) c1_4
    have HRWG : Hid (RowAt XG w5.heap.size 41 [.slice qG mG cG, .slice fG kG dG, .slice tG iG eG]) := by show RowAt _ _ _ _; rw [hX]; exact RowAt.new _ _ _
    have bG_0 : XG.cell? ⟨w5.heap.size, 0, none⟩ = some (.slice qG mG cG) := by rw [hX]; exact (RowAt.new w5 41 [.slice qG mG cG, .slice fG kG dG, .slice tG iG eG]).cell (i := 0) rfl
    have bG_1 : XG.cell? ⟨w5.heap.size, 1, none⟩ = some (.slice fG kG dG) := by rw [hX]; exact (RowAt.new w5 41 [.slice qG mG cG, .slice fG kG dG, .slice tG iG eG]).cell (i := 1) rfl
    have bG_2 : XG.cell? ⟨w5.heap.size, 2, none⟩ = some (.slice tG iG eG) := by rw [hX]; exact (RowAt.new w5 41 [.slice qG mG cG, .slice fG kG dG, .slice tG iG eG]).cell (i := 2) rfl
    replace a0_0 := fkeep hb a0_0
    replace a0_1 := fkeep hb a0_1
    replace a0_2 := fkeep hb a0_2
    replace a1_0 := fkeep hb a1_0
    replace a1_1 := fkeep hb a1_1
    replace a1_2 := fkeep hb a1_2
    replace a1_3 := fkeep hb a1_3
    replace a1_4 := fkeep hb a1_4
    replace bW_0 := fkeep hb bW_0
    replace bW_1 := fkeep hb bW_1
    replace bW_2 := fkeep hb bW_2
    replace c0_0 := fkeep hb c0_0
    replace c0_1 := fkeep hb c0_1
    replace c0_2 := fkeep hb c0_2
    replace c1_0 := fkeep hb c1_0
    replace c1_1 := fkeep hb c1_1
    replace c1_2 := fkeep hb c1_2
    replace c1_3 := fkeep hb c1_3
    replace c1_4 := fkeep hb c1_4
    have HF := Lib.hid (fstep HF.out hb)
    replace HRW := Lib.hid (HRW.out.keep hb)
    replace HZ0 := Lib.hid (HZ0.out.keep hb)
    replace HM0 := Lib.hid (HM0.out.keep hb)
    replace HZ1 := Lib.hid (HZ1.out.keep hb)
    replace HM1 := Lib.hid (HM1.out.keep hb)
    replace HRG := Lib.hid (HRG.out.keep hb)
    clear hb
    have Ha0_0 := Lib.hid a0_0
    have Ha0_1 := Lib.hid a0_1
    have Ha0_2 := Lib.hid a0_2
    have Ha1_0 := Lib.hid a1_0
    have Ha1_1 := Lib.hid a1_1
    have Ha1_2 := Lib.hid a1_2
    have Ha1_3 := Lib.hid a1_3
    have Ha1_4 := Lib.hid a1_4
    have HbW_0 := Lib.hid bW_0
    have HbW_1 := Lib.hid bW_1
    have HbW_2 := Lib.hid bW_2
    have Hc0_0 := Lib.hid c0_0
    have Hc0_1 := Lib.hid c0_1
    have Hc0_2 := Lib.hid c0_2
    have Hc1_0 := Lib.hid c1_0
    have Hc1_1 := Lib.hid c1_1
    have Hc1_2 := Lib.hid c1_2
    have Hc1_3 := Lib.hid c1_3
    have Hc1_4 := Lib.hid c1_4
    have HbG_0 := Lib.hid bG_0
    have HbG_1 := Lib.hid bG_1
    have HbG_2 := Lib.hid bG_2
    clear a0_0 a0_1 a0_2 a1_0 a1_1 a1_2 a1_3 a1_4 bW_0 bW_1 bW_2 c0_0 c0_1 c0_2 c1_0 c1_1 c1_2 c1_3 c1_4 bG_0 bG_1 bG_2
    have HXG := Lib.hid hX
    clear hX
    go_wp2_with fail
    rw [← HXG.out]
    clear HXG
    clear La0_0 La0_1 La0_2 La1_0 La1_1 La1_2 La1_3 La1_4 LbW_0 LbW_1 LbW_2 Lc0_0 Lc0_1 Lc0_2 Lc1_0 Lc1_1 Lc1_2 Lc1_3 Lc1_4
    have a0_0 := Ha0_0.out
    have a0_1 := Ha0_1.out
    have a0_2 := Ha0_2.out
    have a1_0 := Ha1_0.out
    have a1_1 := Ha1_1.out
    have a1_2 := Ha1_2.out
    have a1_3 := Ha1_3.out
    have a1_4 := Ha1_4.out
    have bW_0 := HbW_0.out
    have bW_1 := HbW_1.out
    have bW_2 := HbW_2.out
    have c0_0 := Hc0_0.out
    have c0_1 := Hc0_1.out
    have c0_2 := Hc0_2.out
    have c1_0 := Hc1_0.out
    have c1_1 := Hc1_1.out
    have c1_2 := Hc1_2.out
    have c1_3 := Hc1_3.out
    have c1_4 := Hc1_4.out
    have bG_0 := HbG_0.out
    have bG_1 := HbG_1.out
    have bG_2 := HbG_2.out
    clear Ha0_0 Ha0_1 Ha0_2 Ha1_0 Ha1_1 Ha1_2 Ha1_3 Ha1_4 HbW_0 HbW_1 HbW_2 Hc0_0 Hc0_1 Hc0_2 Hc1_0 Hc1_1 Hc1_2 Hc1_3 Hc1_4 HbG_0 HbG_1 HbG_2
    go_wp2_with fail
    refine (eqPl_r _ _ _ _ _ _ r0 _ (HRG.out) (HRW.out) HSM.out).mono ?_
    rintro e w6 ⟨rfl, hb⟩
    have HSZ11 := Lib.hid (hb.size)
    replace a0_0 := fkeep hb a0_0
    replace a0_1 := fkeep hb a0_1
    replace a0_2 := fkeep hb a0_2
    replace a1_0 := fkeep hb a1_0
    replace a1_1 := fkeep hb a1_1
    replace a1_2 := fkeep hb a1_2
    replace a1_3 := fkeep hb a1_3
    replace a1_4 := fkeep hb a1_4
    replace bW_0 := fkeep hb bW_0
    replace bW_1 := fkeep hb bW_1
    replace bW_2 := fkeep hb bW_2
    replace c0_0 := fkeep hb c0_0
    replace c0_1 := fkeep hb c0_1
    replace c0_2 := fkeep hb c0_2
    replace c1_0 := fkeep hb c1_0
    replace c1_1 := fkeep hb c1_1
    replace c1_2 := fkeep hb c1_2
    replace c1_3 := fkeep hb c1_3
    replace c1_4 := fkeep hb c1_4
    replace bG_0 := fkeep hb bG_0
    replace bG_1 := fkeep hb bG_1
    replace bG_2 := fkeep hb bG_2
    have HF := Lib.hid (fstep HF.out hb)
    replace HRW := Lib.hid (HRW.out.keep hb)
    replace HZ0 := Lib.hid (HZ0.out.keep hb)
    replace HM0 := Lib.hid (HM0.out.keep hb)
    replace HZ1 := Lib.hid (HZ1.out.keep hb)
    replace HM1 := Lib.hid (HM1.out.keep hb)
    replace HRG := Lib.hid (HRG.out.keep hb)
    replace HRWG := Lib.hid (HRWG.out.keep hb)
    clear hb
    go_wp2
    have HSS : Fresh w6 w6 ∧ w6.cell? ⟨w3.heap.size, 0, none⟩ = some (.slice q0x m0x c0x) ∧ w6.cell? ⟨w3.heap.size, 1, none⟩ = some (.slice p0x k0x d0x) ∧ w6.cell? ⟨w3.heap.size, 2, none⟩ = some (.slice r0x i0x e0x) ∧ w6.cell? ⟨w.heap.size, 0, none⟩ = some (.slice q0a m0a c0a) ∧ w6.cell? ⟨w.heap.size, 1, none⟩ = some (.slice p0a k0a d0a) ∧ w6.cell? ⟨w.heap.size, 2, none⟩ = some (.slice r0a i0a e0a) := ⟨frefl _, c0_0, c0_1, c0_2, a0_0, a0_1, a0_2⟩
    go_region_held3 (fun w' => Fresh w6 w' ∧ w'.cell? ⟨w3.heap.size, 0, none⟩ = some (.slice q0x m0x c0x) ∧ w'.cell? ⟨w3.heap.size, 1, none⟩ = some (.slice p0x k0x d0x) ∧ w'.cell? ⟨w3.heap.size, 2, none⟩ = some (.slice r0x i0x e0x) ∧ w'.cell? ⟨w.heap.size, 0, none⟩ = some (.slice q0a m0a c0a) ∧ w'.cell? ⟨w.heap.size, 1, none⟩ = some (.slice p0a k0a d0a) ∧ w'.cell? ⟨w.heap.size, 2, none⟩ = some (.slice r0a i0a e0a))
      (first | assumption | exact keepc6 (by assumption) (by assumption) | exact keepc6 (by assumption) (fdrew (frefl _)) | exact keepc6 (by assumption) (frefl _))
      (first | (go_at_call 9; refine (toPlan_k _ x0 _ (HI0.out.keep (fstep HF.out (And.left (by assumption))))).mono ?_; rintro e w7 ⟨t0, rfl, hy, hb10⟩; have HT0 := Lib.hid hy; clear hy) | (go_at_call 13; refine (eqPlan_k _ _ x0 _ (HZ0.out.keep (And.left (by assumption))) HT0.out).mono ?_; rintro e w8 ⟨rfl, hb11⟩))
    have hb : Fresh w6 w8 := fstep (fstep (fdrew (frefl _)) hb10) hb11
    clear hb10 hb11 HSS HT0
    have HSZ12 := Lib.hid (hb.size)
    replace a0_0 := fkeep hb a0_0
    replace a0_1 := fkeep hb a0_1
    replace a0_2 := fkeep hb a0_2
    replace a1_0 := fkeep hb a1_0
    replace a1_1 := fkeep hb a1_1
    replace a1_2 := fkeep hb a1_2
    replace a1_3 := fkeep hb a1_3
    replace a1_4 := fkeep hb a1_4
    replace bW_0 := fkeep hb bW_0
    replace bW_1 := fkeep hb bW_1
    replace bW_2 := fkeep hb bW_2
    replace c0_0 := fkeep hb c0_0
    replace c0_1 := fkeep hb c0_1
    replace c0_2 := fkeep hb c0_2
    replace c1_0 := fkeep hb c1_0
    replace c1_1 := fkeep hb c1_1
    replace c1_2 := fkeep hb c1_2
    replace c1_3 := fkeep hb c1_3
    replace c1_4 := fkeep hb c1_4
    replace bG_0 := fkeep hb bG_0
    replace bG_1 := fkeep hb bG_1
    replace bG_2 := fkeep hb bG_2
    have HF := Lib.hid (fstep HF.out hb)
    replace HRW := Lib.hid (HRW.out.keep hb)
    replace HZ0 := Lib.hid (HZ0.out.keep hb)
    replace HM0 := Lib.hid (HM0.out.keep hb)
    replace HZ1 := Lib.hid (HZ1.out.keep hb)
    replace HM1 := Lib.hid (HM1.out.keep hb)
    replace HRG := Lib.hid (HRG.out.keep hb)
    replace HRWG := Lib.hid (HRWG.out.keep hb)
    clear hb
    go_wp2
    have HSS : Fresh w8 w8 ∧ w8.cell? ⟨w4.heap.size, 0, none⟩ = some (.int .i64 i1x) ∧ w8.cell? ⟨w4.heap.size, 1, none⟩ = some (.int .i64 s1x) ∧ w8.cell? ⟨w4.heap.size, 2, none⟩ = some (.slice q1x m1x c1x) ∧ w8.cell? ⟨w4.heap.size, 3, none⟩ = some (.int .i64 b1x) ∧ w8.cell? ⟨w4.heap.size, 4, none⟩ = some (.int .i64 d1x) ∧ w8.cell? ⟨w.heap.size + 1, 0, none⟩ = some (.int .i64 i1a) ∧ w8.cell? ⟨w.heap.size + 1, 1, none⟩ = some (.int .i64 s1a) ∧ w8.cell? ⟨w.heap.size + 1, 2, none⟩ = some (.slice q1a m1a c1a) ∧ w8.cell? ⟨w.heap.size + 1, 3, none⟩ = some (.int .i64 b1a) ∧ w8.cell? ⟨w.heap.size + 1, 4, none⟩ = some (.int .i64 d1a) := ⟨frefl _, c1_0, c1_1, c1_2, c1_3, c1_4, a1_0, a1_1, a1_2, a1_3, a1_4⟩
    go_region_held3 (fun w' => Fresh w8 w' ∧ w'.cell? ⟨w4.heap.size, 0, none⟩ = some (.int .i64 i1x) ∧ w'.cell? ⟨w4.heap.size, 1, none⟩ = some (.int .i64 s1x) ∧ w'.cell? ⟨w4.heap.size, 2, none⟩ = some (.slice q1x m1x c1x) ∧ w'.cell? ⟨w4.heap.size, 3, none⟩ = some (.int .i64 b1x) ∧ w'.cell? ⟨w4.heap.size, 4, none⟩ = some (.int .i64 d1x) ∧ w'.cell? ⟨w.heap.size + 1, 0, none⟩ = some (.int .i64 i1a) ∧ w'.cell? ⟨w.heap.size + 1, 1, none⟩ = some (.int .i64 s1a) ∧ w'.cell? ⟨w.heap.size + 1, 2, none⟩ = some (.slice q1a m1a c1a) ∧ w'.cell? ⟨w.heap.size + 1, 3, none⟩ = some (.int .i64 b1a) ∧ w'.cell? ⟨w.heap.size + 1, 4, none⟩ = some (.int .i64 d1a))
      (first | assumption | exact keepc10 (by assumption) (by assumption) | exact keepc10 (by assumption) (fdrew (frefl _)) | exact keepc10 (by assumption) (frefl _))
      (first | (go_at_call 26; refine (toLight_k _ x1 _ (HI1.out.keep (fstep HF.out (And.left (by assumption))))).mono ?_; rintro e w9 ⟨t1, rfl, hy, hb10⟩; have HT1 := Lib.hid hy; clear hy) | (go_at_call 28; refine (eqLight_k _ _ x1 _ (HZ1.out.keep (And.left (by assumption))) HT1.out).mono ?_; rintro e w10 ⟨rfl, hb11⟩))
    have hb : Fresh w8 w10 := fstep (fstep (fdrew (frefl _)) hb10) hb11
    clear hb10 hb11 HSS HT1
    have HSZ13 := Lib.hid (hb.size)
    replace a0_0 := fkeep hb a0_0
    replace a0_1 := fkeep hb a0_1
    replace a0_2 := fkeep hb a0_2
    replace a1_0 := fkeep hb a1_0
    replace a1_1 := fkeep hb a1_1
    replace a1_2 := fkeep hb a1_2
    replace a1_3 := fkeep hb a1_3
    replace a1_4 := fkeep hb a1_4
    replace bW_0 := fkeep hb bW_0
    replace bW_1 := fkeep hb bW_1
    replace bW_2 := fkeep hb bW_2
    replace c0_0 := fkeep hb c0_0
    replace c0_1 := fkeep hb c0_1
    replace c0_2 := fkeep hb c0_2
    replace c1_0 := fkeep hb c1_0
    replace c1_1 := fkeep hb c1_1
    replace c1_2 := fkeep hb c1_2
    replace c1_3 := fkeep hb c1_3
    replace c1_4 := fkeep hb c1_4
    replace bG_0 := fkeep hb bG_0
    replace bG_1 := fkeep hb bG_1
    replace bG_2 := fkeep hb bG_2
    have HF := Lib.hid (fstep HF.out hb)
    replace HRW := Lib.hid (HRW.out.keep hb)
    replace HZ0 := Lib.hid (HZ0.out.keep hb)
    replace HM0 := Lib.hid (HM0.out.keep hb)
    replace HZ1 := Lib.hid (HZ1.out.keep hb)
    replace HM1 := Lib.hid (HM1.out.keep hb)
    replace HRG := Lib.hid (HRG.out.keep hb)
    replace HRWG := Lib.hid (HRWG.out.keep hb)
    clear hb
    clear HZ0 HZ1
    go_wp2_with fail
    refine (markPlan_m _ (wcW.heap.size) (w3.heap.size) 1 _ HM0.out (by have s0 := HSZ0.out; have s1 := HSZ1.out; have s2 := HSZ2.out; have s3 := HSZ3.out; have s4 := HSZ4.out; have s5 := HSZ5.out; have s6 := HSZ6.out; have s7 := HSZ7.out; have s8 := HSZ8.out; have s9 := HSZ9.out; have s10 := HSZ10.out; have s11 := HSZ11.out; have s12 := HSZ12.out; have s13 := HSZ13.out; omega) (by have s0 := HSZ0.out; have s1 := HSZ1.out; have s2 := HSZ2.out; have s3 := HSZ3.out; have s4 := HSZ4.out; have s5 := HSZ5.out; have s6 := HSZ6.out; have s7 := HSZ7.out; have s8 := HSZ8.out; have s9 := HSZ9.out; have s10 := HSZ10.out; have s11 := HSZ11.out; have s12 := HSZ12.out; have s13 := HSZ13.out; omega) (by omega) (by omega)).mono ?_
    rintro e w11 ⟨k0, rfl, hka0, hkb0, hb⟩
    clear HM0
    replace hkb0 : k0 ≤ 1 + 17592186044416 := hkb0
    have HSZ14 := Lib.hid (hb.low.size)
    replace a0_0 := Mk.cell hb (by first | exact Or.inl (by have s0 := HSZ0.out; have s1 := HSZ1.out; have s2 := HSZ2.out; have s3 := HSZ3.out; have s4 := HSZ4.out; have s5 := HSZ5.out; have s6 := HSZ6.out; have s7 := HSZ7.out; have s8 := HSZ8.out; have s9 := HSZ9.out; have s10 := HSZ10.out; have s11 := HSZ11.out; have s12 := HSZ12.out; have s13 := HSZ13.out; have s14 := HSZ14.out; omega) | exact Or.inr (by have s0 := HSZ0.out; have s1 := HSZ1.out; have s2 := HSZ2.out; have s3 := HSZ3.out; have s4 := HSZ4.out; have s5 := HSZ5.out; have s6 := HSZ6.out; have s7 := HSZ7.out; have s8 := HSZ8.out; have s9 := HSZ9.out; have s10 := HSZ10.out; have s11 := HSZ11.out; have s12 := HSZ12.out; have s13 := HSZ13.out; have s14 := HSZ14.out; omega)) a0_0
    replace a0_1 := Mk.cell hb (by first | exact Or.inl (by have s0 := HSZ0.out; have s1 := HSZ1.out; have s2 := HSZ2.out; have s3 := HSZ3.out; have s4 := HSZ4.out; have s5 := HSZ5.out; have s6 := HSZ6.out; have s7 := HSZ7.out; have s8 := HSZ8.out; have s9 := HSZ9.out; have s10 := HSZ10.out; have s11 := HSZ11.out; have s12 := HSZ12.out; have s13 := HSZ13.out; have s14 := HSZ14.out; omega) | exact Or.inr (by have s0 := HSZ0.out; have s1 := HSZ1.out; have s2 := HSZ2.out; have s3 := HSZ3.out; have s4 := HSZ4.out; have s5 := HSZ5.out; have s6 := HSZ6.out; have s7 := HSZ7.out; have s8 := HSZ8.out; have s9 := HSZ9.out; have s10 := HSZ10.out; have s11 := HSZ11.out; have s12 := HSZ12.out; have s13 := HSZ13.out; have s14 := HSZ14.out; omega)) a0_1
    replace a0_2 := Mk.cell hb (by first | exact Or.inl (by have s0 := HSZ0.out; have s1 := HSZ1.out; have s2 := HSZ2.out; have s3 := HSZ3.out; have s4 := HSZ4.out; have s5 := HSZ5.out; have s6 := HSZ6.out; have s7 := HSZ7.out; have s8 := HSZ8.out; have s9 := HSZ9.out; have s10 := HSZ10.out; have s11 := HSZ11.out; have s12 := HSZ12.out; have s13 := HSZ13.out; have s14 := HSZ14.out; omega) | exact Or.inr (by have s0 := HSZ0.out; have s1 := HSZ1.out; have s2 := HSZ2.out; have s3 := HSZ3.out; have s4 := HSZ4.out; have s5 := HSZ5.out; have s6 := HSZ6.out; have s7 := HSZ7.out; have s8 := HSZ8.out; have s9 := HSZ9.out; have s10 := HSZ10.out; have s11 := HSZ11.out; have s12 := HSZ12.out; have s13 := HSZ13.out; have s14 := HSZ14.out; omega)) a0_2
    replace a1_0 := Mk.cell hb (by first | exact Or.inl (by have s0 := HSZ0.out; have s1 := HSZ1.out; have s2 := HSZ2.out; have s3 := HSZ3.out; have s4 := HSZ4.out; have s5 := HSZ5.out; have s6 := HSZ6.out; have s7 := HSZ7.out; have s8 := HSZ8.out; have s9 := HSZ9.out; have s10 := HSZ10.out; have s11 := HSZ11.out; have s12 := HSZ12.out; have s13 := HSZ13.out; have s14 := HSZ14.out; omega) | exact Or.inr (by have s0 := HSZ0.out; have s1 := HSZ1.out; have s2 := HSZ2.out; have s3 := HSZ3.out; have s4 := HSZ4.out; have s5 := HSZ5.out; have s6 := HSZ6.out; have s7 := HSZ7.out; have s8 := HSZ8.out; have s9 := HSZ9.out; have s10 := HSZ10.out; have s11 := HSZ11.out; have s12 := HSZ12.out; have s13 := HSZ13.out; have s14 := HSZ14.out; omega)) a1_0
    replace a1_1 := Mk.cell hb (by first | exact Or.inl (by have s0 := HSZ0.out; have s1 := HSZ1.out; have s2 := HSZ2.out; have s3 := HSZ3.out; have s4 := HSZ4.out; have s5 := HSZ5.out; have s6 := HSZ6.out; have s7 := HSZ7.out; have s8 := HSZ8.out; have s9 := HSZ9.out; have s10 := HSZ10.out; have s11 := HSZ11.out; have s12 := HSZ12.out; have s13 := HSZ13.out; have s14 := HSZ14.out; omega) | exact Or.inr (by have s0 := HSZ0.out; have s1 := HSZ1.out; have s2 := HSZ2.out; have s3 := HSZ3.out; have s4 := HSZ4.out; have s5 := HSZ5.out; have s6 := HSZ6.out; have s7 := HSZ7.out; have s8 := HSZ8.out; have s9 := HSZ9.out; have s10 := HSZ10.out; have s11 := HSZ11.out; have s12 := HSZ12.out; have s13 := HSZ13.out; have s14 := HSZ14.out; omega)) a1_1
    replace a1_2 := Mk.cell hb (by first | exact Or.inl (by have s0 := HSZ0.out; have s1 := HSZ1.out; have s2 := HSZ2.out; have s3 := HSZ3.out; have s4 := HSZ4.out; have s5 := HSZ5.out; have s6 := HSZ6.out; have s7 := HSZ7.out; have s8 := HSZ8.out; have s9 := HSZ9.out; have s10 := HSZ10.out; have s11 := HSZ11.out; have s12 := HSZ12.out; have s13 := HSZ13.out; have s14 := HSZ14.out; omega) | exact Or.inr (by have s0 := HSZ0.out; have s1 := HSZ1.out; have s2 := HSZ2.out; have s3 := HSZ3.out; have s4 := HSZ4.out; have s5 := HSZ5.out; have s6 := HSZ6.out; have s7 := HSZ7.out; have s8 := HSZ8.out; have s9 := HSZ9.out; have s10 := HSZ10.out; have s11 := HSZ11.out; have s12 := HSZ12.out; have s13 := HSZ13.out; have s14 := HSZ14.out; omega)) a1_2
    replace a1_3 := Mk.cell hb (by first | exact Or.inl (by have s0 := HSZ0.out; have s1 := HSZ1.out; have s2 := HSZ2.out; have s3 := HSZ3.out; have s4 := HSZ4.out; have s5 := HSZ5.out; have s6 := HSZ6.out; have s7 := HSZ7.out; have s8 := HSZ8.out; have s9 := HSZ9.out; have s10 := HSZ10.out; have s11 := HSZ11.out; have s12 := HSZ12.out; have s13 := HSZ13.out; have s14 := HSZ14.out; omega) | exact Or.inr (by have s0 := HSZ0.out; have s1 := HSZ1.out; have s2 := HSZ2.out; have s3 := HSZ3.out; have s4 := HSZ4.out; have s5 := HSZ5.out; have s6 := HSZ6.out; have s7 := HSZ7.out; have s8 := HSZ8.out; have s9 := HSZ9.out; have s10 := HSZ10.out; have s11 := HSZ11.out; have s12 := HSZ12.out; have s13 := HSZ13.out; have s14 := HSZ14.out; omega)) a1_3
    replace a1_4 := Mk.cell hb (by first | exact Or.inl (by have s0 := HSZ0.out; have s1 := HSZ1.out; have s2 := HSZ2.out; have s3 := HSZ3.out; have s4 := HSZ4.out; have s5 := HSZ5.out; have s6 := HSZ6.out; have s7 := HSZ7.out; have s8 := HSZ8.out; have s9 := HSZ9.out; have s10 := HSZ10.out; have s11 := HSZ11.out; have s12 := HSZ12.out; have s13 := HSZ13.out; have s14 := HSZ14.out; omega) | exact Or.inr (by have s0 := HSZ0.out; have s1 := HSZ1.out; have s2 := HSZ2.out; have s3 := HSZ3.out; have s4 := HSZ4.out; have s5 := HSZ5.out; have s6 := HSZ6.out; have s7 := HSZ7.out; have s8 := HSZ8.out; have s9 := HSZ9.out; have s10 := HSZ10.out; have s11 := HSZ11.out; have s12 := HSZ12.out; have s13 := HSZ13.out; have s14 := HSZ14.out; omega)) a1_4
    replace bW_0 := Mk.cell hb (by first | exact Or.inl (by have s0 := HSZ0.out; have s1 := HSZ1.out; have s2 := HSZ2.out; have s3 := HSZ3.out; have s4 := HSZ4.out; have s5 := HSZ5.out; have s6 := HSZ6.out; have s7 := HSZ7.out; have s8 := HSZ8.out; have s9 := HSZ9.out; have s10 := HSZ10.out; have s11 := HSZ11.out; have s12 := HSZ12.out; have s13 := HSZ13.out; have s14 := HSZ14.out; omega) | exact Or.inr (by have s0 := HSZ0.out; have s1 := HSZ1.out; have s2 := HSZ2.out; have s3 := HSZ3.out; have s4 := HSZ4.out; have s5 := HSZ5.out; have s6 := HSZ6.out; have s7 := HSZ7.out; have s8 := HSZ8.out; have s9 := HSZ9.out; have s10 := HSZ10.out; have s11 := HSZ11.out; have s12 := HSZ12.out; have s13 := HSZ13.out; have s14 := HSZ14.out; omega)) bW_0
    replace bW_1 := Mk.cell hb (by first | exact Or.inl (by have s0 := HSZ0.out; have s1 := HSZ1.out; have s2 := HSZ2.out; have s3 := HSZ3.out; have s4 := HSZ4.out; have s5 := HSZ5.out; have s6 := HSZ6.out; have s7 := HSZ7.out; have s8 := HSZ8.out; have s9 := HSZ9.out; have s10 := HSZ10.out; have s11 := HSZ11.out; have s12 := HSZ12.out; have s13 := HSZ13.out; have s14 := HSZ14.out; omega) | exact Or.inr (by have s0 := HSZ0.out; have s1 := HSZ1.out; have s2 := HSZ2.out; have s3 := HSZ3.out; have s4 := HSZ4.out; have s5 := HSZ5.out; have s6 := HSZ6.out; have s7 := HSZ7.out; have s8 := HSZ8.out; have s9 := HSZ9.out; have s10 := HSZ10.out; have s11 := HSZ11.out; have s12 := HSZ12.out; have s13 := HSZ13.out; have s14 := HSZ14.out; omega)) bW_1
    replace bW_2 := Mk.cell hb (by first | exact Or.inl (by have s0 := HSZ0.out; have s1 := HSZ1.out; have s2 := HSZ2.out; have s3 := HSZ3.out; have s4 := HSZ4.out; have s5 := HSZ5.out; have s6 := HSZ6.out; have s7 := HSZ7.out; have s8 := HSZ8.out; have s9 := HSZ9.out; have s10 := HSZ10.out; have s11 := HSZ11.out; have s12 := HSZ12.out; have s13 := HSZ13.out; have s14 := HSZ14.out; omega) | exact Or.inr (by have s0 := HSZ0.out; have s1 := HSZ1.out; have s2 := HSZ2.out; have s3 := HSZ3.out; have s4 := HSZ4.out; have s5 := HSZ5.out; have s6 := HSZ6.out; have s7 := HSZ7.out; have s8 := HSZ8.out; have s9 := HSZ9.out; have s10 := HSZ10.out; have s11 := HSZ11.out; have s12 := HSZ12.out; have s13 := HSZ13.out; have s14 := HSZ14.out; omega)) bW_2
    replace c0_0 := Mk.cell hb (by first | exact Or.inl (by have s0 := HSZ0.out; have s1 := HSZ1.out; have s2 := HSZ2.out; have s3 := HSZ3.out; have s4 := HSZ4.out; have s5 := HSZ5.out; have s6 := HSZ6.out; have s7 := HSZ7.out; have s8 := HSZ8.out; have s9 := HSZ9.out; have s10 := HSZ10.out; have s11 := HSZ11.out; have s12 := HSZ12.out; have s13 := HSZ13.out; have s14 := HSZ14.out; omega) | exact Or.inr (by have s0 := HSZ0.out; have s1 := HSZ1.out; have s2 := HSZ2.out; have s3 := HSZ3.out; have s4 := HSZ4.out; have s5 := HSZ5.out; have s6 := HSZ6.out; have s7 := HSZ7.out; have s8 := HSZ8.out; have s9 := HSZ9.out; have s10 := HSZ10.out; have s11 := HSZ11.out; have s12 := HSZ12.out; have s13 := HSZ13.out; have s14 := HSZ14.out; omega)) c0_0
    replace c0_1 := Mk.cell hb (by first | exact Or.inl (by have s0 := HSZ0.out; have s1 := HSZ1.out; have s2 := HSZ2.out; have s3 := HSZ3.out; have s4 := HSZ4.out; have s5 := HSZ5.out; have s6 := HSZ6.out; have s7 := HSZ7.out; have s8 := HSZ8.out; have s9 := HSZ9.out; have s10 := HSZ10.out; have s11 := HSZ11.out; have s12 := HSZ12.out; have s13 := HSZ13.out; have s14 := HSZ14.out; omega) | exact Or.inr (by have s0 := HSZ0.out; have s1 := HSZ1.out; have s2 := HSZ2.out; have s3 := HSZ3.out; have s4 := HSZ4.out; have s5 := HSZ5.out; have s6 := HSZ6.out; have s7 := HSZ7.out; have s8 := HSZ8.out; have s9 := HSZ9.out; have s10 := HSZ10.out; have s11 := HSZ11.out; have s12 := HSZ12.out; have s13 := HSZ13.out; have s14 := HSZ14.out; omega)) c0_1
    replace c0_2 := Mk.cell hb (by first | exact Or.inl (by have s0 := HSZ0.out; have s1 := HSZ1.out; have s2 := HSZ2.out; have s3 := HSZ3.out; have s4 := HSZ4.out; have s5 := HSZ5.out; have s6 := HSZ6.out; have s7 := HSZ7.out; have s8 := HSZ8.out; have s9 := HSZ9.out; have s10 := HSZ10.out; have s11 := HSZ11.out; have s12 := HSZ12.out; have s13 := HSZ13.out; have s14 := HSZ14.out; omega) | exact Or.inr (by have s0 := HSZ0.out; have s1 := HSZ1.out; have s2 := HSZ2.out; have s3 := HSZ3.out; have s4 := HSZ4.out; have s5 := HSZ5.out; have s6 := HSZ6.out; have s7 := HSZ7.out; have s8 := HSZ8.out; have s9 := HSZ9.out; have s10 := HSZ10.out; have s11 := HSZ11.out; have s12 := HSZ12.out; have s13 := HSZ13.out; have s14 := HSZ14.out; omega)) c0_2
    replace c1_0 := Mk.cell hb (by first | exact Or.inl (by have s0 := HSZ0.out; have s1 := HSZ1.out; have s2 := HSZ2.out; have s3 := HSZ3.out; have s4 := HSZ4.out; have s5 := HSZ5.out; have s6 := HSZ6.out; have s7 := HSZ7.out; have s8 := HSZ8.out; have s9 := HSZ9.out; have s10 := HSZ10.out; have s11 := HSZ11.out; have s12 := HSZ12.out; have s13 := HSZ13.out; have s14 := HSZ14.out; omega) | exact Or.inr (by have s0 := HSZ0.out; have s1 := HSZ1.out; have s2 := HSZ2.out; have s3 := HSZ3.out; have s4 := HSZ4.out; have s5 := HSZ5.out; have s6 := HSZ6.out; have s7 := HSZ7.out; have s8 := HSZ8.out; have s9 := HSZ9.out; have s10 := HSZ10.out; have s11 := HSZ11.out; have s12 := HSZ12.out; have s13 := HSZ13.out; have s14 := HSZ14.out; omega)) c1_0
    replace c1_1 := Mk.cell hb (by first | exact Or.inl (by have s0 := HSZ0.out; have s1 := HSZ1.out; have s2 := HSZ2.out; have s3 := HSZ3.out; have s4 := HSZ4.out; have s5 := HSZ5.out; have s6 := HSZ6.out; have s7 := HSZ7.out; have s8 := HSZ8.out; have s9 := HSZ9.out; have s10 := HSZ10.out; have s11 := HSZ11.out; have s12 := HSZ12.out; have s13 := HSZ13.out; have s14 := HSZ14.out; omega) | exact Or.inr (by have s0 := HSZ0.out; have s1 := HSZ1.out; have s2 := HSZ2.out; have s3 := HSZ3.out; have s4 := HSZ4.out; have s5 := HSZ5.out; have s6 := HSZ6.out; have s7 := HSZ7.out; have s8 := HSZ8.out; have s9 := HSZ9.out; have s10 := HSZ10.out; have s11 := HSZ11.out; have s12 := HSZ12.out; have s13 := HSZ13.out; have s14 := HSZ14.out; omega)) c1_1
    replace c1_2 := Mk.cell hb (by first | exact Or.inl (by have s0 := HSZ0.out; have s1 := HSZ1.out; have s2 := HSZ2.out; have s3 := HSZ3.out; have s4 := HSZ4.out; have s5 := HSZ5.out; have s6 := HSZ6.out; have s7 := HSZ7.out; have s8 := HSZ8.out; have s9 := HSZ9.out; have s10 := HSZ10.out; have s11 := HSZ11.out; have s12 := HSZ12.out; have s13 := HSZ13.out; have s14 := HSZ14.out; omega) | exact Or.inr (by have s0 := HSZ0.out; have s1 := HSZ1.out; have s2 := HSZ2.out; have s3 := HSZ3.out; have s4 := HSZ4.out; have s5 := HSZ5.out; have s6 := HSZ6.out; have s7 := HSZ7.out; have s8 := HSZ8.out; have s9 := HSZ9.out; have s10 := HSZ10.out; have s11 := HSZ11.out; have s12 := HSZ12.out; have s13 := HSZ13.out; have s14 := HSZ14.out; omega)) c1_2
    replace c1_3 := Mk.cell hb (by first | exact Or.inl (by have s0 := HSZ0.out; have s1 := HSZ1.out; have s2 := HSZ2.out; have s3 := HSZ3.out; have s4 := HSZ4.out; have s5 := HSZ5.out; have s6 := HSZ6.out; have s7 := HSZ7.out; have s8 := HSZ8.out; have s9 := HSZ9.out; have s10 := HSZ10.out; have s11 := HSZ11.out; have s12 := HSZ12.out; have s13 := HSZ13.out; have s14 := HSZ14.out; omega) | exact Or.inr (by have s0 := HSZ0.out; have s1 := HSZ1.out; have s2 := HSZ2.out; have s3 := HSZ3.out; have s4 := HSZ4.out; have s5 := HSZ5.out; have s6 := HSZ6.out; have s7 := HSZ7.out; have s8 := HSZ8.out; have s9 := HSZ9.out; have s10 := HSZ10.out; have s11 := HSZ11.out; have s12 := HSZ12.out; have s13 := HSZ13.out; have s14 := HSZ14.out; omega)) c1_3
    replace c1_4 := Mk.cell hb (by first | exact Or.inl (by have s0 := HSZ0.out; have s1 := HSZ1.out; have s2 := HSZ2.out; have s3 := HSZ3.out; have s4 := HSZ4.out; have s5 := HSZ5.out; have s6 := HSZ6.out; have s7 := HSZ7.out; have s8 := HSZ8.out; have s9 := HSZ9.out; have s10 := HSZ10.out; have s11 := HSZ11.out; have s12 := HSZ12.out; have s13 := HSZ13.out; have s14 := HSZ14.out; omega) | exact Or.inr (by have s0 := HSZ0.out; have s1 := HSZ1.out; have s2 := HSZ2.out; have s3 := HSZ3.out; have s4 := HSZ4.out; have s5 := HSZ5.out; have s6 := HSZ6.out; have s7 := HSZ7.out; have s8 := HSZ8.out; have s9 := HSZ9.out; have s10 := HSZ10.out; have s11 := HSZ11.out; have s12 := HSZ12.out; have s13 := HSZ13.out; have s14 := HSZ14.out; omega)) c1_4
    replace bG_0 := Mk.cell hb (by first | exact Or.inl (by have s0 := HSZ0.out; have s1 := HSZ1.out; have s2 := HSZ2.out; have s3 := HSZ3.out; have s4 := HSZ4.out; have s5 := HSZ5.out; have s6 := HSZ6.out; have s7 := HSZ7.out; have s8 := HSZ8.out; have s9 := HSZ9.out; have s10 := HSZ10.out; have s11 := HSZ11.out; have s12 := HSZ12.out; have s13 := HSZ13.out; have s14 := HSZ14.out; omega) | exact Or.inr (by have s0 := HSZ0.out; have s1 := HSZ1.out; have s2 := HSZ2.out; have s3 := HSZ3.out; have s4 := HSZ4.out; have s5 := HSZ5.out; have s6 := HSZ6.out; have s7 := HSZ7.out; have s8 := HSZ8.out; have s9 := HSZ9.out; have s10 := HSZ10.out; have s11 := HSZ11.out; have s12 := HSZ12.out; have s13 := HSZ13.out; have s14 := HSZ14.out; omega)) bG_0
    replace bG_1 := Mk.cell hb (by first | exact Or.inl (by have s0 := HSZ0.out; have s1 := HSZ1.out; have s2 := HSZ2.out; have s3 := HSZ3.out; have s4 := HSZ4.out; have s5 := HSZ5.out; have s6 := HSZ6.out; have s7 := HSZ7.out; have s8 := HSZ8.out; have s9 := HSZ9.out; have s10 := HSZ10.out; have s11 := HSZ11.out; have s12 := HSZ12.out; have s13 := HSZ13.out; have s14 := HSZ14.out; omega) | exact Or.inr (by have s0 := HSZ0.out; have s1 := HSZ1.out; have s2 := HSZ2.out; have s3 := HSZ3.out; have s4 := HSZ4.out; have s5 := HSZ5.out; have s6 := HSZ6.out; have s7 := HSZ7.out; have s8 := HSZ8.out; have s9 := HSZ9.out; have s10 := HSZ10.out; have s11 := HSZ11.out; have s12 := HSZ12.out; have s13 := HSZ13.out; have s14 := HSZ14.out; omega)) bG_1
    replace bG_2 := Mk.cell hb (by first | exact Or.inl (by have s0 := HSZ0.out; have s1 := HSZ1.out; have s2 := HSZ2.out; have s3 := HSZ3.out; have s4 := HSZ4.out; have s5 := HSZ5.out; have s6 := HSZ6.out; have s7 := HSZ7.out; have s8 := HSZ8.out; have s9 := HSZ9.out; have s10 := HSZ10.out; have s11 := HSZ11.out; have s12 := HSZ12.out; have s13 := HSZ13.out; have s14 := HSZ14.out; omega) | exact Or.inr (by have s0 := HSZ0.out; have s1 := HSZ1.out; have s2 := HSZ2.out; have s3 := HSZ3.out; have s4 := HSZ4.out; have s5 := HSZ5.out; have s6 := HSZ6.out; have s7 := HSZ7.out; have s8 := HSZ8.out; have s9 := HSZ9.out; have s10 := HSZ10.out; have s11 := HSZ11.out; have s12 := HSZ12.out; have s13 := HSZ13.out; have s14 := HSZ14.out; omega)) bG_2
    have HF := Lib.hid (Mk.fresh_of HF.out hb (by have s0 := HSZ0.out; have s1 := HSZ1.out; have s2 := HSZ2.out; have s3 := HSZ3.out; have s4 := HSZ4.out; have s5 := HSZ5.out; have s6 := HSZ6.out; have s7 := HSZ7.out; have s8 := HSZ8.out; have s9 := HSZ9.out; have s10 := HSZ10.out; have s11 := HSZ11.out; have s12 := HSZ12.out; have s13 := HSZ13.out; have s14 := HSZ14.out; omega))
    replace HRW := Lib.hid (HRW.out.mk hb (by first | exact Or.inl (by have s0 := HSZ0.out; have s1 := HSZ1.out; have s2 := HSZ2.out; have s3 := HSZ3.out; have s4 := HSZ4.out; have s5 := HSZ5.out; have s6 := HSZ6.out; have s7 := HSZ7.out; have s8 := HSZ8.out; have s9 := HSZ9.out; have s10 := HSZ10.out; have s11 := HSZ11.out; have s12 := HSZ12.out; have s13 := HSZ13.out; have s14 := HSZ14.out; omega) | exact Or.inr (by have s0 := HSZ0.out; have s1 := HSZ1.out; have s2 := HSZ2.out; have s3 := HSZ3.out; have s4 := HSZ4.out; have s5 := HSZ5.out; have s6 := HSZ6.out; have s7 := HSZ7.out; have s8 := HSZ8.out; have s9 := HSZ9.out; have s10 := HSZ10.out; have s11 := HSZ11.out; have s12 := HSZ12.out; have s13 := HSZ13.out; have s14 := HSZ14.out; omega)))
    replace HM1 := Lib.hid (HM1.out.mk (by decide) hb)
    replace HRG := Lib.hid (HRG.out.mk hb (by first | exact Or.inl (by have s0 := HSZ0.out; have s1 := HSZ1.out; have s2 := HSZ2.out; have s3 := HSZ3.out; have s4 := HSZ4.out; have s5 := HSZ5.out; have s6 := HSZ6.out; have s7 := HSZ7.out; have s8 := HSZ8.out; have s9 := HSZ9.out; have s10 := HSZ10.out; have s11 := HSZ11.out; have s12 := HSZ12.out; have s13 := HSZ13.out; have s14 := HSZ14.out; omega) | exact Or.inr (by have s0 := HSZ0.out; have s1 := HSZ1.out; have s2 := HSZ2.out; have s3 := HSZ3.out; have s4 := HSZ4.out; have s5 := HSZ5.out; have s6 := HSZ6.out; have s7 := HSZ7.out; have s8 := HSZ8.out; have s9 := HSZ9.out; have s10 := HSZ10.out; have s11 := HSZ11.out; have s12 := HSZ12.out; have s13 := HSZ13.out; have s14 := HSZ14.out; omega)))
    replace HRWG := Lib.hid (hb.row _ _ _ HRWG.out (by decide))
    clear hb
    go_wp2_with fail
    refine (markLight_m _ (Xx0.heap.size) (w4.heap.size) k0 _ HM1.out (by have s0 := HSZ0.out; have s1 := HSZ1.out; have s2 := HSZ2.out; have s3 := HSZ3.out; have s4 := HSZ4.out; have s5 := HSZ5.out; have s6 := HSZ6.out; have s7 := HSZ7.out; have s8 := HSZ8.out; have s9 := HSZ9.out; have s10 := HSZ10.out; have s11 := HSZ11.out; have s12 := HSZ12.out; have s13 := HSZ13.out; have s14 := HSZ14.out; omega) (by have s0 := HSZ0.out; have s1 := HSZ1.out; have s2 := HSZ2.out; have s3 := HSZ3.out; have s4 := HSZ4.out; have s5 := HSZ5.out; have s6 := HSZ6.out; have s7 := HSZ7.out; have s8 := HSZ8.out; have s9 := HSZ9.out; have s10 := HSZ10.out; have s11 := HSZ11.out; have s12 := HSZ12.out; have s13 := HSZ13.out; have s14 := HSZ14.out; omega) (by omega) (by omega)).mono ?_
    rintro e w12 ⟨k1, rfl, hka1, hkb1, hb⟩
    clear HM1
    replace hkb1 : k1 ≤ k0 + 17592186044416 := hkb1
    have HSZ15 := Lib.hid (hb.low.size)
    replace a0_0 := Mk.cell hb (by first | exact Or.inl (by have s0 := HSZ0.out; have s1 := HSZ1.out; have s2 := HSZ2.out; have s3 := HSZ3.out; have s4 := HSZ4.out; have s5 := HSZ5.out; have s6 := HSZ6.out; have s7 := HSZ7.out; have s8 := HSZ8.out; have s9 := HSZ9.out; have s10 := HSZ10.out; have s11 := HSZ11.out; have s12 := HSZ12.out; have s13 := HSZ13.out; have s14 := HSZ14.out; have s15 := HSZ15.out; omega) | exact Or.inr (by have s0 := HSZ0.out; have s1 := HSZ1.out; have s2 := HSZ2.out; have s3 := HSZ3.out; have s4 := HSZ4.out; have s5 := HSZ5.out; have s6 := HSZ6.out; have s7 := HSZ7.out; have s8 := HSZ8.out; have s9 := HSZ9.out; have s10 := HSZ10.out; have s11 := HSZ11.out; have s12 := HSZ12.out; have s13 := HSZ13.out; have s14 := HSZ14.out; have s15 := HSZ15.out; omega)) a0_0
    replace a0_1 := Mk.cell hb (by first | exact Or.inl (by have s0 := HSZ0.out; have s1 := HSZ1.out; have s2 := HSZ2.out; have s3 := HSZ3.out; have s4 := HSZ4.out; have s5 := HSZ5.out; have s6 := HSZ6.out; have s7 := HSZ7.out; have s8 := HSZ8.out; have s9 := HSZ9.out; have s10 := HSZ10.out; have s11 := HSZ11.out; have s12 := HSZ12.out; have s13 := HSZ13.out; have s14 := HSZ14.out; have s15 := HSZ15.out; omega) | exact Or.inr (by have s0 := HSZ0.out; have s1 := HSZ1.out; have s2 := HSZ2.out; have s3 := HSZ3.out; have s4 := HSZ4.out; have s5 := HSZ5.out; have s6 := HSZ6.out; have s7 := HSZ7.out; have s8 := HSZ8.out; have s9 := HSZ9.out; have s10 := HSZ10.out; have s11 := HSZ11.out; have s12 := HSZ12.out; have s13 := HSZ13.out; have s14 := HSZ14.out; have s15 := HSZ15.out; omega)) a0_1
    replace a0_2 := Mk.cell hb (by first | exact Or.inl (by have s0 := HSZ0.out; have s1 := HSZ1.out; have s2 := HSZ2.out; have s3 := HSZ3.out; have s4 := HSZ4.out; have s5 := HSZ5.out; have s6 := HSZ6.out; have s7 := HSZ7.out; have s8 := HSZ8.out; have s9 := HSZ9.out; have s10 := HSZ10.out; have s11 := HSZ11.out; have s12 := HSZ12.out; have s13 := HSZ13.out; have s14 := HSZ14.out; have s15 := HSZ15.out; omega) | exact Or.inr (by have s0 := HSZ0.out; have s1 := HSZ1.out; have s2 := HSZ2.out; have s3 := HSZ3.out; have s4 := HSZ4.out; have s5 := HSZ5.out; have s6 := HSZ6.out; have s7 := HSZ7.out; have s8 := HSZ8.out; have s9 := HSZ9.out; have s10 := HSZ10.out; have s11 := HSZ11.out; have s12 := HSZ12.out; have s13 := HSZ13.out; have s14 := HSZ14.out; have s15 := HSZ15.out; omega)) a0_2
    replace a1_0 := Mk.cell hb (by first | exact Or.inl (by have s0 := HSZ0.out; have s1 := HSZ1.out; have s2 := HSZ2.out; have s3 := HSZ3.out; have s4 := HSZ4.out; have s5 := HSZ5.out; have s6 := HSZ6.out; have s7 := HSZ7.out; have s8 := HSZ8.out; have s9 := HSZ9.out; have s10 := HSZ10.out; have s11 := HSZ11.out; have s12 := HSZ12.out; have s13 := HSZ13.out; have s14 := HSZ14.out; have s15 := HSZ15.out; omega) | exact Or.inr (by have s0 := HSZ0.out; have s1 := HSZ1.out; have s2 := HSZ2.out; have s3 := HSZ3.out; have s4 := HSZ4.out; have s5 := HSZ5.out; have s6 := HSZ6.out; have s7 := HSZ7.out; have s8 := HSZ8.out; have s9 := HSZ9.out; have s10 := HSZ10.out; have s11 := HSZ11.out; have s12 := HSZ12.out; have s13 := HSZ13.out; have s14 := HSZ14.out; have s15 := HSZ15.out; omega)) a1_0
    replace a1_1 := Mk.cell hb (by first | exact Or.inl (by have s0 := HSZ0.out; have s1 := HSZ1.out; have s2 := HSZ2.out; have s3 := HSZ3.out; have s4 := HSZ4.out; have s5 := HSZ5.out; have s6 := HSZ6.out; have s7 := HSZ7.out; have s8 := HSZ8.out; have s9 := HSZ9.out; have s10 := HSZ10.out; have s11 := HSZ11.out; have s12 := HSZ12.out; have s13 := HSZ13.out; have s14 := HSZ14.out; have s15 := HSZ15.out; omega) | exact Or.inr (by have s0 := HSZ0.out; have s1 := HSZ1.out; have s2 := HSZ2.out; have s3 := HSZ3.out; have s4 := HSZ4.out; have s5 := HSZ5.out; have s6 := HSZ6.out; have s7 := HSZ7.out; have s8 := HSZ8.out; have s9 := HSZ9.out; have s10 := HSZ10.out; have s11 := HSZ11.out; have s12 := HSZ12.out; have s13 := HSZ13.out; have s14 := HSZ14.out; have s15 := HSZ15.out; omega)) a1_1
    replace a1_2 := Mk.cell hb (by first | exact Or.inl (by have s0 := HSZ0.out; have s1 := HSZ1.out; have s2 := HSZ2.out; have s3 := HSZ3.out; have s4 := HSZ4.out; have s5 := HSZ5.out; have s6 := HSZ6.out; have s7 := HSZ7.out; have s8 := HSZ8.out; have s9 := HSZ9.out; have s10 := HSZ10.out; have s11 := HSZ11.out; have s12 := HSZ12.out; have s13 := HSZ13.out; have s14 := HSZ14.out; have s15 := HSZ15.out; omega) | exact Or.inr (by have s0 := HSZ0.out; have s1 := HSZ1.out; have s2 := HSZ2.out; have s3 := HSZ3.out; have s4 := HSZ4.out; have s5 := HSZ5.out; have s6 := HSZ6.out; have s7 := HSZ7.out; have s8 := HSZ8.out; have s9 := HSZ9.out; have s10 := HSZ10.out; have s11 := HSZ11.out; have s12 := HSZ12.out; have s13 := HSZ13.out; have s14 := HSZ14.out; have s15 := HSZ15.out; omega)) a1_2
    replace a1_3 := Mk.cell hb (by first | exact Or.inl (by have s0 := HSZ0.out; have s1 := HSZ1.out; have s2 := HSZ2.out; have s3 := HSZ3.out; have s4 := HSZ4.out; have s5 := HSZ5.out; have s6 := HSZ6.out; have s7 := HSZ7.out; have s8 := HSZ8.out; have s9 := HSZ9.out; have s10 := HSZ10.out; have s11 := HSZ11.out; have s12 := HSZ12.out; have s13 := HSZ13.out; have s14 := HSZ14.out; have s15 := HSZ15.out; omega) | exact Or.inr (by have s0 := HSZ0.out; have s1 := HSZ1.out; have s2 := HSZ2.out; have s3 := HSZ3.out; have s4 := HSZ4.out; have s5 := HSZ5.out; have s6 := HSZ6.out; have s7 := HSZ7.out; have s8 := HSZ8.out; have s9 := HSZ9.out; have s10 := HSZ10.out; have s11 := HSZ11.out; have s12 := HSZ12.out; have s13 := HSZ13.out; have s14 := HSZ14.out; have s15 := HSZ15.out; omega)) a1_3
    replace a1_4 := Mk.cell hb (by first | exact Or.inl (by have s0 := HSZ0.out; have s1 := HSZ1.out; have s2 := HSZ2.out; have s3 := HSZ3.out; have s4 := HSZ4.out; have s5 := HSZ5.out; have s6 := HSZ6.out; have s7 := HSZ7.out; have s8 := HSZ8.out; have s9 := HSZ9.out; have s10 := HSZ10.out; have s11 := HSZ11.out; have s12 := HSZ12.out; have s13 := HSZ13.out; have s14 := HSZ14.out; have s15 := HSZ15.out; omega) | exact Or.inr (by have s0 := HSZ0.out; have s1 := HSZ1.out; have s2 := HSZ2.out; have s3 := HSZ3.out; have s4 := HSZ4.out; have s5 := HSZ5.out; have s6 := HSZ6.out; have s7 := HSZ7.out; have s8 := HSZ8.out; have s9 := HSZ9.out; have s10 := HSZ10.out; have s11 := HSZ11.out; have s12 := HSZ12.out; have s13 := HSZ13.out; have s14 := HSZ14.out; have s15 := HSZ15.out; omega)) a1_4
    replace bW_0 := Mk.cell hb (by first | exact Or.inl (by have s0 := HSZ0.out; have s1 := HSZ1.out; have s2 := HSZ2.out; have s3 := HSZ3.out; have s4 := HSZ4.out; have s5 := HSZ5.out; have s6 := HSZ6.out; have s7 := HSZ7.out; have s8 := HSZ8.out; have s9 := HSZ9.out; have s10 := HSZ10.out; have s11 := HSZ11.out; have s12 := HSZ12.out; have s13 := HSZ13.out; have s14 := HSZ14.out; have s15 := HSZ15.out; omega) | exact Or.inr (by have s0 := HSZ0.out; have s1 := HSZ1.out; have s2 := HSZ2.out; have s3 := HSZ3.out; have s4 := HSZ4.out; have s5 := HSZ5.out; have s6 := HSZ6.out; have s7 := HSZ7.out; have s8 := HSZ8.out; have s9 := HSZ9.out; have s10 := HSZ10.out; have s11 := HSZ11.out; have s12 := HSZ12.out; have s13 := HSZ13.out; have s14 := HSZ14.out; have s15 := HSZ15.out; omega)) bW_0
    replace bW_1 := Mk.cell hb (by first | exact Or.inl (by have s0 := HSZ0.out; have s1 := HSZ1.out; have s2 := HSZ2.out; have s3 := HSZ3.out; have s4 := HSZ4.out; have s5 := HSZ5.out; have s6 := HSZ6.out; have s7 := HSZ7.out; have s8 := HSZ8.out; have s9 := HSZ9.out; have s10 := HSZ10.out; have s11 := HSZ11.out; have s12 := HSZ12.out; have s13 := HSZ13.out; have s14 := HSZ14.out; have s15 := HSZ15.out; omega) | exact Or.inr (by have s0 := HSZ0.out; have s1 := HSZ1.out; have s2 := HSZ2.out; have s3 := HSZ3.out; have s4 := HSZ4.out; have s5 := HSZ5.out; have s6 := HSZ6.out; have s7 := HSZ7.out; have s8 := HSZ8.out; have s9 := HSZ9.out; have s10 := HSZ10.out; have s11 := HSZ11.out; have s12 := HSZ12.out; have s13 := HSZ13.out; have s14 := HSZ14.out; have s15 := HSZ15.out; omega)) bW_1
    replace bW_2 := Mk.cell hb (by first | exact Or.inl (by have s0 := HSZ0.out; have s1 := HSZ1.out; have s2 := HSZ2.out; have s3 := HSZ3.out; have s4 := HSZ4.out; have s5 := HSZ5.out; have s6 := HSZ6.out; have s7 := HSZ7.out; have s8 := HSZ8.out; have s9 := HSZ9.out; have s10 := HSZ10.out; have s11 := HSZ11.out; have s12 := HSZ12.out; have s13 := HSZ13.out; have s14 := HSZ14.out; have s15 := HSZ15.out; omega) | exact Or.inr (by have s0 := HSZ0.out; have s1 := HSZ1.out; have s2 := HSZ2.out; have s3 := HSZ3.out; have s4 := HSZ4.out; have s5 := HSZ5.out; have s6 := HSZ6.out; have s7 := HSZ7.out; have s8 := HSZ8.out; have s9 := HSZ9.out; have s10 := HSZ10.out; have s11 := HSZ11.out; have s12 := HSZ12.out; have s13 := HSZ13.out; have s14 := HSZ14.out; have s15 := HSZ15.out; omega)) bW_2
    replace c0_0 := Mk.cell hb (by first | exact Or.inl (by have s0 := HSZ0.out; have s1 := HSZ1.out; have s2 := HSZ2.out; have s3 := HSZ3.out; have s4 := HSZ4.out; have s5 := HSZ5.out; have s6 := HSZ6.out; have s7 := HSZ7.out; have s8 := HSZ8.out; have s9 := HSZ9.out; have s10 := HSZ10.out; have s11 := HSZ11.out; have s12 := HSZ12.out; have s13 := HSZ13.out; have s14 := HSZ14.out; have s15 := HSZ15.out; omega) | exact Or.inr (by have s0 := HSZ0.out; have s1 := HSZ1.out; have s2 := HSZ2.out; have s3 := HSZ3.out; have s4 := HSZ4.out; have s5 := HSZ5.out; have s6 := HSZ6.out; have s7 := HSZ7.out; have s8 := HSZ8.out; have s9 := HSZ9.out; have s10 := HSZ10.out; have s11 := HSZ11.out; have s12 := HSZ12.out; have s13 := HSZ13.out; have s14 := HSZ14.out; have s15 := HSZ15.out; omega)) c0_0
    replace c0_1 := Mk.cell hb (by first | exact Or.inl (by have s0 := HSZ0.out; have s1 := HSZ1.out; have s2 := HSZ2.out; have s3 := HSZ3.out; have s4 := HSZ4.out; have s5 := HSZ5.out; have s6 := HSZ6.out; have s7 := HSZ7.out; have s8 := HSZ8.out; have s9 := HSZ9.out; have s10 := HSZ10.out; have s11 := HSZ11.out; have s12 := HSZ12.out; have s13 := HSZ13.out; have s14 := HSZ14.out; have s15 := HSZ15.out; omega) | exact Or.inr (by have s0 := HSZ0.out; have s1 := HSZ1.out; have s2 := HSZ2.out; have s3 := HSZ3.out; have s4 := HSZ4.out; have s5 := HSZ5.out; have s6 := HSZ6.out; have s7 := HSZ7.out; have s8 := HSZ8.out; have s9 := HSZ9.out; have s10 := HSZ10.out; have s11 := HSZ11.out; have s12 := HSZ12.out; have s13 := HSZ13.out; have s14 := HSZ14.out; have s15 := HSZ15.out; omega)) c0_1
    replace c0_2 := Mk.cell hb (by first | exact Or.inl (by have s0 := HSZ0.out; have s1 := HSZ1.out; have s2 := HSZ2.out; have s3 := HSZ3.out; have s4 := HSZ4.out; have s5 := HSZ5.out; have s6 := HSZ6.out; have s7 := HSZ7.out; have s8 := HSZ8.out; have s9 := HSZ9.out; have s10 := HSZ10.out; have s11 := HSZ11.out; have s12 := HSZ12.out; have s13 := HSZ13.out; have s14 := HSZ14.out; have s15 := HSZ15.out; omega) | exact Or.inr (by have s0 := HSZ0.out; have s1 := HSZ1.out; have s2 := HSZ2.out; have s3 := HSZ3.out; have s4 := HSZ4.out; have s5 := HSZ5.out; have s6 := HSZ6.out; have s7 := HSZ7.out; have s8 := HSZ8.out; have s9 := HSZ9.out; have s10 := HSZ10.out; have s11 := HSZ11.out; have s12 := HSZ12.out; have s13 := HSZ13.out; have s14 := HSZ14.out; have s15 := HSZ15.out; omega)) c0_2
    replace c1_0 := Mk.cell hb (by first | exact Or.inl (by have s0 := HSZ0.out; have s1 := HSZ1.out; have s2 := HSZ2.out; have s3 := HSZ3.out; have s4 := HSZ4.out; have s5 := HSZ5.out; have s6 := HSZ6.out; have s7 := HSZ7.out; have s8 := HSZ8.out; have s9 := HSZ9.out; have s10 := HSZ10.out; have s11 := HSZ11.out; have s12 := HSZ12.out; have s13 := HSZ13.out; have s14 := HSZ14.out; have s15 := HSZ15.out; omega) | exact Or.inr (by have s0 := HSZ0.out; have s1 := HSZ1.out; have s2 := HSZ2.out; have s3 := HSZ3.out; have s4 := HSZ4.out; have s5 := HSZ5.out; have s6 := HSZ6.out; have s7 := HSZ7.out; have s8 := HSZ8.out; have s9 := HSZ9.out; have s10 := HSZ10.out; have s11 := HSZ11.out; have s12 := HSZ12.out; have s13 := HSZ13.out; have s14 := HSZ14.out; have s15 := HSZ15.out; omega)) c1_0
    replace c1_1 := Mk.cell hb (by first | exact Or.inl (by have s0 := HSZ0.out; have s1 := HSZ1.out; have s2 := HSZ2.out; have s3 := HSZ3.out; have s4 := HSZ4.out; have s5 := HSZ5.out; have s6 := HSZ6.out; have s7 := HSZ7.out; have s8 := HSZ8.out; have s9 := HSZ9.out; have s10 := HSZ10.out; have s11 := HSZ11.out; have s12 := HSZ12.out; have s13 := HSZ13.out; have s14 := HSZ14.out; have s15 := HSZ15.out; omega) | exact Or.inr (by have s0 := HSZ0.out; have s1 := HSZ1.out; have s2 := HSZ2.out; have s3 := HSZ3.out; have s4 := HSZ4.out; have s5 := HSZ5.out; have s6 := HSZ6.out; have s7 := HSZ7.out; have s8 := HSZ8.out; have s9 := HSZ9.out; have s10 := HSZ10.out; have s11 := HSZ11.out; have s12 := HSZ12.out; have s13 := HSZ13.out; have s14 := HSZ14.out; have s15 := HSZ15.out; omega)) c1_1
    replace c1_2 := Mk.cell hb (by first | exact Or.inl (by have s0 := HSZ0.out; have s1 := HSZ1.out; have s2 := HSZ2.out; have s3 := HSZ3.out; have s4 := HSZ4.out; have s5 := HSZ5.out; have s6 := HSZ6.out; have s7 := HSZ7.out; have s8 := HSZ8.out; have s9 := HSZ9.out; have s10 := HSZ10.out; have s11 := HSZ11.out; have s12 := HSZ12.out; have s13 := HSZ13.out; have s14 := HSZ14.out; have s15 := HSZ15.out; omega) | exact Or.inr (by have s0 := HSZ0.out; have s1 := HSZ1.out; have s2 := HSZ2.out; have s3 := HSZ3.out; have s4 := HSZ4.out; have s5 := HSZ5.out; have s6 := HSZ6.out; have s7 := HSZ7.out; have s8 := HSZ8.out; have s9 := HSZ9.out; have s10 := HSZ10.out; have s11 := HSZ11.out; have s12 := HSZ12.out; have s13 := HSZ13.out; have s14 := HSZ14.out; have s15 := HSZ15.out; omega)) c1_2
    replace c1_3 := Mk.cell hb (by first | exact Or.inl (by have s0 := HSZ0.out; have s1 := HSZ1.out; have s2 := HSZ2.out; have s3 := HSZ3.out; have s4 := HSZ4.out; have s5 := HSZ5.out; have s6 := HSZ6.out; have s7 := HSZ7.out; have s8 := HSZ8.out; have s9 := HSZ9.out; have s10 := HSZ10.out; have s11 := HSZ11.out; have s12 := HSZ12.out; have s13 := HSZ13.out; have s14 := HSZ14.out; have s15 := HSZ15.out; omega) | exact Or.inr (by have s0 := HSZ0.out; have s1 := HSZ1.out; have s2 := HSZ2.out; have s3 := HSZ3.out; have s4 := HSZ4.out; have s5 := HSZ5.out; have s6 := HSZ6.out; have s7 := HSZ7.out; have s8 := HSZ8.out; have s9 := HSZ9.out; have s10 := HSZ10.out; have s11 := HSZ11.out; have s12 := HSZ12.out; have s13 := HSZ13.out; have s14 := HSZ14.out; have s15 := HSZ15.out; omega)) c1_3
    replace c1_4 := Mk.cell hb (by first | exact Or.inl (by have s0 := HSZ0.out; have s1 := HSZ1.out; have s2 := HSZ2.out; have s3 := HSZ3.out; have s4 := HSZ4.out; have s5 := HSZ5.out; have s6 := HSZ6.out; have s7 := HSZ7.out; have s8 := HSZ8.out; have s9 := HSZ9.out; have s10 := HSZ10.out; have s11 := HSZ11.out; have s12 := HSZ12.out; have s13 := HSZ13.out; have s14 := HSZ14.out; have s15 := HSZ15.out; omega) | exact Or.inr (by have s0 := HSZ0.out; have s1 := HSZ1.out; have s2 := HSZ2.out; have s3 := HSZ3.out; have s4 := HSZ4.out; have s5 := HSZ5.out; have s6 := HSZ6.out; have s7 := HSZ7.out; have s8 := HSZ8.out; have s9 := HSZ9.out; have s10 := HSZ10.out; have s11 := HSZ11.out; have s12 := HSZ12.out; have s13 := HSZ13.out; have s14 := HSZ14.out; have s15 := HSZ15.out; omega)) c1_4
    replace bG_0 := Mk.cell hb (by first | exact Or.inl (by have s0 := HSZ0.out; have s1 := HSZ1.out; have s2 := HSZ2.out; have s3 := HSZ3.out; have s4 := HSZ4.out; have s5 := HSZ5.out; have s6 := HSZ6.out; have s7 := HSZ7.out; have s8 := HSZ8.out; have s9 := HSZ9.out; have s10 := HSZ10.out; have s11 := HSZ11.out; have s12 := HSZ12.out; have s13 := HSZ13.out; have s14 := HSZ14.out; have s15 := HSZ15.out; omega) | exact Or.inr (by have s0 := HSZ0.out; have s1 := HSZ1.out; have s2 := HSZ2.out; have s3 := HSZ3.out; have s4 := HSZ4.out; have s5 := HSZ5.out; have s6 := HSZ6.out; have s7 := HSZ7.out; have s8 := HSZ8.out; have s9 := HSZ9.out; have s10 := HSZ10.out; have s11 := HSZ11.out; have s12 := HSZ12.out; have s13 := HSZ13.out; have s14 := HSZ14.out; have s15 := HSZ15.out; omega)) bG_0
    replace bG_1 := Mk.cell hb (by first | exact Or.inl (by have s0 := HSZ0.out; have s1 := HSZ1.out; have s2 := HSZ2.out; have s3 := HSZ3.out; have s4 := HSZ4.out; have s5 := HSZ5.out; have s6 := HSZ6.out; have s7 := HSZ7.out; have s8 := HSZ8.out; have s9 := HSZ9.out; have s10 := HSZ10.out; have s11 := HSZ11.out; have s12 := HSZ12.out; have s13 := HSZ13.out; have s14 := HSZ14.out; have s15 := HSZ15.out; omega) | exact Or.inr (by have s0 := HSZ0.out; have s1 := HSZ1.out; have s2 := HSZ2.out; have s3 := HSZ3.out; have s4 := HSZ4.out; have s5 := HSZ5.out; have s6 := HSZ6.out; have s7 := HSZ7.out; have s8 := HSZ8.out; have s9 := HSZ9.out; have s10 := HSZ10.out; have s11 := HSZ11.out; have s12 := HSZ12.out; have s13 := HSZ13.out; have s14 := HSZ14.out; have s15 := HSZ15.out; omega)) bG_1
    replace bG_2 := Mk.cell hb (by first | exact Or.inl (by have s0 := HSZ0.out; have s1 := HSZ1.out; have s2 := HSZ2.out; have s3 := HSZ3.out; have s4 := HSZ4.out; have s5 := HSZ5.out; have s6 := HSZ6.out; have s7 := HSZ7.out; have s8 := HSZ8.out; have s9 := HSZ9.out; have s10 := HSZ10.out; have s11 := HSZ11.out; have s12 := HSZ12.out; have s13 := HSZ13.out; have s14 := HSZ14.out; have s15 := HSZ15.out; omega) | exact Or.inr (by have s0 := HSZ0.out; have s1 := HSZ1.out; have s2 := HSZ2.out; have s3 := HSZ3.out; have s4 := HSZ4.out; have s5 := HSZ5.out; have s6 := HSZ6.out; have s7 := HSZ7.out; have s8 := HSZ8.out; have s9 := HSZ9.out; have s10 := HSZ10.out; have s11 := HSZ11.out; have s12 := HSZ12.out; have s13 := HSZ13.out; have s14 := HSZ14.out; have s15 := HSZ15.out; omega)) bG_2
    have HF := Lib.hid (Mk.fresh_of HF.out hb (by have s0 := HSZ0.out; have s1 := HSZ1.out; have s2 := HSZ2.out; have s3 := HSZ3.out; have s4 := HSZ4.out; have s5 := HSZ5.out; have s6 := HSZ6.out; have s7 := HSZ7.out; have s8 := HSZ8.out; have s9 := HSZ9.out; have s10 := HSZ10.out; have s11 := HSZ11.out; have s12 := HSZ12.out; have s13 := HSZ13.out; have s14 := HSZ14.out; have s15 := HSZ15.out; omega))
    replace HRW := Lib.hid (HRW.out.mk hb (by first | exact Or.inl (by have s0 := HSZ0.out; have s1 := HSZ1.out; have s2 := HSZ2.out; have s3 := HSZ3.out; have s4 := HSZ4.out; have s5 := HSZ5.out; have s6 := HSZ6.out; have s7 := HSZ7.out; have s8 := HSZ8.out; have s9 := HSZ9.out; have s10 := HSZ10.out; have s11 := HSZ11.out; have s12 := HSZ12.out; have s13 := HSZ13.out; have s14 := HSZ14.out; have s15 := HSZ15.out; omega) | exact Or.inr (by have s0 := HSZ0.out; have s1 := HSZ1.out; have s2 := HSZ2.out; have s3 := HSZ3.out; have s4 := HSZ4.out; have s5 := HSZ5.out; have s6 := HSZ6.out; have s7 := HSZ7.out; have s8 := HSZ8.out; have s9 := HSZ9.out; have s10 := HSZ10.out; have s11 := HSZ11.out; have s12 := HSZ12.out; have s13 := HSZ13.out; have s14 := HSZ14.out; have s15 := HSZ15.out; omega)))
    replace HRG := Lib.hid (HRG.out.mk hb (by first | exact Or.inl (by have s0 := HSZ0.out; have s1 := HSZ1.out; have s2 := HSZ2.out; have s3 := HSZ3.out; have s4 := HSZ4.out; have s5 := HSZ5.out; have s6 := HSZ6.out; have s7 := HSZ7.out; have s8 := HSZ8.out; have s9 := HSZ9.out; have s10 := HSZ10.out; have s11 := HSZ11.out; have s12 := HSZ12.out; have s13 := HSZ13.out; have s14 := HSZ14.out; have s15 := HSZ15.out; omega) | exact Or.inr (by have s0 := HSZ0.out; have s1 := HSZ1.out; have s2 := HSZ2.out; have s3 := HSZ3.out; have s4 := HSZ4.out; have s5 := HSZ5.out; have s6 := HSZ6.out; have s7 := HSZ7.out; have s8 := HSZ8.out; have s9 := HSZ9.out; have s10 := HSZ10.out; have s11 := HSZ11.out; have s12 := HSZ12.out; have s13 := HSZ13.out; have s14 := HSZ14.out; have s15 := HSZ15.out; omega)))
    replace HRWG := Lib.hid (hb.row _ _ _ HRWG.out (by decide))
    clear hb
    clear c0_0 c0_1 c0_2 c1_0 c1_1 c1_2 c1_3 c1_4
    have hkn : (k1 < 0) = False := eq_false (by omega)
    go_wp2_with fail
    refine (eqPl_r _ _ _ _ _ _ r0 _ (HRG.out) (HRW.out) HSM.out).mono ?_
    rintro e w13 ⟨rfl, hb⟩
    have HSZ16 := Lib.hid (hb.size)
    replace a0_0 := fkeep hb a0_0
    replace a0_1 := fkeep hb a0_1
    replace a0_2 := fkeep hb a0_2
    replace a1_0 := fkeep hb a1_0
    replace a1_1 := fkeep hb a1_1
    replace a1_2 := fkeep hb a1_2
    replace a1_3 := fkeep hb a1_3
    replace a1_4 := fkeep hb a1_4
    replace bW_0 := fkeep hb bW_0
    replace bW_1 := fkeep hb bW_1
    replace bW_2 := fkeep hb bW_2
    replace bG_0 := fkeep hb bG_0
    replace bG_1 := fkeep hb bG_1
    replace bG_2 := fkeep hb bG_2
    have HF := Lib.hid (fstep HF.out hb)
    replace HRW := Lib.hid (HRW.out.keep hb)
    replace HRG := Lib.hid (HRG.out.keep hb)
    replace HRWG := Lib.hid (HRWG.out.keep hb)
    clear hb
    clear hkn hka0 hkb0 hka1 hkb1
    go_wp2_with fail
    refine (markPl_r _ (Xx1.heap.size) r0 1 _ HRG.out.own (by have s0 := HSZ0.out; have s1 := HSZ1.out; have s2 := HSZ2.out; have s3 := HSZ3.out; have s4 := HSZ4.out; have s5 := HSZ5.out; have s6 := HSZ6.out; have s7 := HSZ7.out; have s8 := HSZ8.out; have s9 := HSZ9.out; have s10 := HSZ10.out; have s11 := HSZ11.out; have s12 := HSZ12.out; have s13 := HSZ13.out; have s14 := HSZ14.out; have s15 := HSZ15.out; have s16 := HSZ16.out; omega) HSM.out (by omega) (by omega)).mono ?_
    rintro e w14 ⟨N, rfl, ho, hb, hkk⟩
    have HG := Lib.hid ho
    clear ho HRG
    have HSZ17 := Lib.hid (hb.size)
    replace a0_0 := bkeep hb (by have s0 := HSZ0.out; have s1 := HSZ1.out; have s2 := HSZ2.out; have s3 := HSZ3.out; have s4 := HSZ4.out; have s5 := HSZ5.out; have s6 := HSZ6.out; have s7 := HSZ7.out; have s8 := HSZ8.out; have s9 := HSZ9.out; have s10 := HSZ10.out; have s11 := HSZ11.out; have s12 := HSZ12.out; have s13 := HSZ13.out; have s14 := HSZ14.out; have s15 := HSZ15.out; have s16 := HSZ16.out; have s17 := HSZ17.out; omega) a0_0
    replace a0_1 := bkeep hb (by have s0 := HSZ0.out; have s1 := HSZ1.out; have s2 := HSZ2.out; have s3 := HSZ3.out; have s4 := HSZ4.out; have s5 := HSZ5.out; have s6 := HSZ6.out; have s7 := HSZ7.out; have s8 := HSZ8.out; have s9 := HSZ9.out; have s10 := HSZ10.out; have s11 := HSZ11.out; have s12 := HSZ12.out; have s13 := HSZ13.out; have s14 := HSZ14.out; have s15 := HSZ15.out; have s16 := HSZ16.out; have s17 := HSZ17.out; omega) a0_1
    replace a0_2 := bkeep hb (by have s0 := HSZ0.out; have s1 := HSZ1.out; have s2 := HSZ2.out; have s3 := HSZ3.out; have s4 := HSZ4.out; have s5 := HSZ5.out; have s6 := HSZ6.out; have s7 := HSZ7.out; have s8 := HSZ8.out; have s9 := HSZ9.out; have s10 := HSZ10.out; have s11 := HSZ11.out; have s12 := HSZ12.out; have s13 := HSZ13.out; have s14 := HSZ14.out; have s15 := HSZ15.out; have s16 := HSZ16.out; have s17 := HSZ17.out; omega) a0_2
    replace a1_0 := bkeep hb (by have s0 := HSZ0.out; have s1 := HSZ1.out; have s2 := HSZ2.out; have s3 := HSZ3.out; have s4 := HSZ4.out; have s5 := HSZ5.out; have s6 := HSZ6.out; have s7 := HSZ7.out; have s8 := HSZ8.out; have s9 := HSZ9.out; have s10 := HSZ10.out; have s11 := HSZ11.out; have s12 := HSZ12.out; have s13 := HSZ13.out; have s14 := HSZ14.out; have s15 := HSZ15.out; have s16 := HSZ16.out; have s17 := HSZ17.out; omega) a1_0
    replace a1_1 := bkeep hb (by have s0 := HSZ0.out; have s1 := HSZ1.out; have s2 := HSZ2.out; have s3 := HSZ3.out; have s4 := HSZ4.out; have s5 := HSZ5.out; have s6 := HSZ6.out; have s7 := HSZ7.out; have s8 := HSZ8.out; have s9 := HSZ9.out; have s10 := HSZ10.out; have s11 := HSZ11.out; have s12 := HSZ12.out; have s13 := HSZ13.out; have s14 := HSZ14.out; have s15 := HSZ15.out; have s16 := HSZ16.out; have s17 := HSZ17.out; omega) a1_1
    replace a1_2 := bkeep hb (by have s0 := HSZ0.out; have s1 := HSZ1.out; have s2 := HSZ2.out; have s3 := HSZ3.out; have s4 := HSZ4.out; have s5 := HSZ5.out; have s6 := HSZ6.out; have s7 := HSZ7.out; have s8 := HSZ8.out; have s9 := HSZ9.out; have s10 := HSZ10.out; have s11 := HSZ11.out; have s12 := HSZ12.out; have s13 := HSZ13.out; have s14 := HSZ14.out; have s15 := HSZ15.out; have s16 := HSZ16.out; have s17 := HSZ17.out; omega) a1_2
    replace a1_3 := bkeep hb (by have s0 := HSZ0.out; have s1 := HSZ1.out; have s2 := HSZ2.out; have s3 := HSZ3.out; have s4 := HSZ4.out; have s5 := HSZ5.out; have s6 := HSZ6.out; have s7 := HSZ7.out; have s8 := HSZ8.out; have s9 := HSZ9.out; have s10 := HSZ10.out; have s11 := HSZ11.out; have s12 := HSZ12.out; have s13 := HSZ13.out; have s14 := HSZ14.out; have s15 := HSZ15.out; have s16 := HSZ16.out; have s17 := HSZ17.out; omega) a1_3
    replace a1_4 := bkeep hb (by have s0 := HSZ0.out; have s1 := HSZ1.out; have s2 := HSZ2.out; have s3 := HSZ3.out; have s4 := HSZ4.out; have s5 := HSZ5.out; have s6 := HSZ6.out; have s7 := HSZ7.out; have s8 := HSZ8.out; have s9 := HSZ9.out; have s10 := HSZ10.out; have s11 := HSZ11.out; have s12 := HSZ12.out; have s13 := HSZ13.out; have s14 := HSZ14.out; have s15 := HSZ15.out; have s16 := HSZ16.out; have s17 := HSZ17.out; omega) a1_4
    replace bW_0 := bkeep hb (by have s0 := HSZ0.out; have s1 := HSZ1.out; have s2 := HSZ2.out; have s3 := HSZ3.out; have s4 := HSZ4.out; have s5 := HSZ5.out; have s6 := HSZ6.out; have s7 := HSZ7.out; have s8 := HSZ8.out; have s9 := HSZ9.out; have s10 := HSZ10.out; have s11 := HSZ11.out; have s12 := HSZ12.out; have s13 := HSZ13.out; have s14 := HSZ14.out; have s15 := HSZ15.out; have s16 := HSZ16.out; have s17 := HSZ17.out; omega) bW_0
    replace bW_1 := bkeep hb (by have s0 := HSZ0.out; have s1 := HSZ1.out; have s2 := HSZ2.out; have s3 := HSZ3.out; have s4 := HSZ4.out; have s5 := HSZ5.out; have s6 := HSZ6.out; have s7 := HSZ7.out; have s8 := HSZ8.out; have s9 := HSZ9.out; have s10 := HSZ10.out; have s11 := HSZ11.out; have s12 := HSZ12.out; have s13 := HSZ13.out; have s14 := HSZ14.out; have s15 := HSZ15.out; have s16 := HSZ16.out; have s17 := HSZ17.out; omega) bW_1
    replace bW_2 := bkeep hb (by have s0 := HSZ0.out; have s1 := HSZ1.out; have s2 := HSZ2.out; have s3 := HSZ3.out; have s4 := HSZ4.out; have s5 := HSZ5.out; have s6 := HSZ6.out; have s7 := HSZ7.out; have s8 := HSZ8.out; have s9 := HSZ9.out; have s10 := HSZ10.out; have s11 := HSZ11.out; have s12 := HSZ12.out; have s13 := HSZ13.out; have s14 := HSZ14.out; have s15 := HSZ15.out; have s16 := HSZ16.out; have s17 := HSZ17.out; omega) bW_2
    replace bG_0 := (hkk _ _ _ HRWG.out (by decide) (by decide) (by decide) (by decide) ).cell (i := 0) rfl
    replace bG_1 := (hkk _ _ _ HRWG.out (by decide) (by decide) (by decide) (by decide) ).cell (i := 1) rfl
    replace bG_2 := (hkk _ _ _ HRWG.out (by decide) (by decide) (by decide) (by decide) ).cell (i := 2) rfl
    have HF := Lib.hid (HF.out.trans (hb.mono (by have s0 := HSZ0.out; have s1 := HSZ1.out; have s2 := HSZ2.out; have s3 := HSZ3.out; have s4 := HSZ4.out; have s5 := HSZ5.out; have s6 := HSZ6.out; have s7 := HSZ7.out; have s8 := HSZ8.out; have s9 := HSZ9.out; have s10 := HSZ10.out; have s11 := HSZ11.out; have s12 := HSZ12.out; have s13 := HSZ13.out; have s14 := HSZ14.out; have s15 := HSZ15.out; have s16 := HSZ16.out; have s17 := HSZ17.out; omega)))
    replace HRW := Lib.hid (HRW.out.below hb (by have s0 := HSZ0.out; have s1 := HSZ1.out; have s2 := HSZ2.out; have s3 := HSZ3.out; have s4 := HSZ4.out; have s5 := HSZ5.out; have s6 := HSZ6.out; have s7 := HSZ7.out; have s8 := HSZ8.out; have s9 := HSZ9.out; have s10 := HSZ10.out; have s11 := HSZ11.out; have s12 := HSZ12.out; have s13 := HSZ13.out; have s14 := HSZ14.out; have s15 := HSZ15.out; have s16 := HSZ16.out; have s17 := HSZ17.out; omega))
    replace HRWG := Lib.hid (hkk _ _ _ HRWG.out (by decide) (by decide) (by decide) (by decide) )
    clear hb
    clear hkk HRWG
    go_wp2_with fail
    refine (heldPl_o _ _ r0 1 _ _ HG.out HSM.out (by omega) (by omega)).mono ?_
    rintro e w15 ⟨rfl, hb⟩
    have HSZ18 := Lib.hid (hb.size)
    replace a0_0 := fkeep hb a0_0
    replace a0_1 := fkeep hb a0_1
    replace a0_2 := fkeep hb a0_2
    replace a1_0 := fkeep hb a1_0
    replace a1_1 := fkeep hb a1_1
    replace a1_2 := fkeep hb a1_2
    replace a1_3 := fkeep hb a1_3
    replace a1_4 := fkeep hb a1_4
    replace bW_0 := fkeep hb bW_0
    replace bW_1 := fkeep hb bW_1
    replace bW_2 := fkeep hb bW_2
    replace bG_0 := fkeep hb bG_0
    replace bG_1 := fkeep hb bG_1
    replace bG_2 := fkeep hb bG_2
    have HF := Lib.hid (fstep HF.out hb)
    replace HRW := Lib.hid (HRW.out.keep hb)
    replace HG := Lib.hid (HG.out.keep hb)
    clear hb
    go_upto_region 31 with fail
    go_cut [15, 16] (fun z15 z16 wx => ∃ (gb : Nat) (qH : Option Addr) (mH : Nat) (cH : Nat) (fH : Option Addr) (kH : Nat) (dH : Nat) (tH : Option Addr) (iH : Nat) (eH : Nat), z15 = .pointer (some ⟨gb, 0, none⟩) ∧ z16 = .bool r1 ∧ RowAt wx gb 41 [.slice qH mH cH, .slice fH kH dH, .slice tH iH eH] ∧ PlHeld wx (0) wx.heap.size (.agg #[.slice qH mH cH, .slice fH kH dH, .slice tH iH eH]) r0 ∧ Fresh w15 wx ∧ w15.heap.size ≤ gb)
    case first =>
      refine hd_start (n := 10) (S := fun wz => wz.cell? ⟨w.heap.size, 0, none⟩ = some (.slice q0a m0a c0a) ∧ wz.cell? ⟨w.heap.size, 1, none⟩ = some (.slice p0a k0a d0a) ∧ wz.cell? ⟨w.heap.size, 2, none⟩ = some (.slice r0a i0a e0a) ∧ wz.cell? ⟨w.heap.size + 1, 0, none⟩ = some (.int .i64 i1a) ∧ wz.cell? ⟨w.heap.size + 1, 1, none⟩ = some (.int .i64 s1a) ∧ wz.cell? ⟨w.heap.size + 1, 2, none⟩ = some (.slice q1a m1a c1a) ∧ wz.cell? ⟨w.heap.size + 1, 3, none⟩ = some (.int .i64 b1a) ∧ wz.cell? ⟨w.heap.size + 1, 4, none⟩ = some (.int .i64 d1a)) (by kernel_rfl) (by kernel_rfl) ⟨fkeep (fdrew (frefl _)) a0_0, fkeep (fdrew (frefl _)) a0_1, fkeep (fdrew (frefl _)) a0_2, fkeep (fdrew (frefl _)) a1_0, fkeep (fdrew (frefl _)) a1_1, fkeep (fdrew (frefl _)) a1_2, fkeep (fdrew (frefl _)) a1_3, fkeep (fdrew (frefl _)) a1_4⟩ (fun hHeld => ?_)
      obtain ⟨Wz, hWz⟩ : ∃ W, W = w15.drew := ⟨_, rfl⟩
      rw [← hWz] at hHeld ⊢
      have f0 : Fresh w15 Wz := by rw [hWz]; exact fdrew (frefl _)
      clear hWz
      refine hd_take (i := 0) (v := ?_) rfl (by kernel_rfl) (by kernel_rfl) (by kernel_rfl) (by kernel_rfl) (fun _ _ _ h => h) (by assumption) (Or.inl ⟨by rfl, ?_⟩) ?_
      rotate_left
      · (intro w hSw; (try dsimp only at hSw); go_simp; first | done | with_reducible rfl)
      try simp only [Act.put, List.getElem_toArray, List.getElem_cons_succ, List.getElem_cons_zero, List.setIfInBounds_toArray, List.set_cons_zero, List.set_cons_succ]
      refine hd_take (i := 2) (v := ?_) rfl (by kernel_rfl) (by kernel_rfl) (by kernel_rfl) (by kernel_rfl) (fun _ _ _ h => h) (by assumption) (Or.inl ⟨by rfl, ?_⟩) ?_
      rotate_left
      · (intro w hSw; (try dsimp only at hSw); go_simp; first | done | with_reducible rfl)
      try simp only [Act.put, List.getElem_toArray, List.getElem_cons_succ, List.getElem_cons_zero, List.setIfInBounds_toArray, List.set_cons_zero, List.set_cons_succ]
      refine hd_ready (rs := [1, 8]) (by kernel_rfl) (by simp) ?_
      refine hd_cons (i := 1) rfl (by kernel_rfl) (fun K hK => ?_) ?_
      · skip
        go_simp
        go_at_call 9
        refine (toPlan_k _ x0 _ (HI0.out.keep (fstep HF.out f0))).mono ?_
        rintro e wk1 ⟨u0, rfl, hy0, hb0⟩
        have fk1 := fstep f0 hb0
        go_wp2_with fail
        refine hK.out _ _ ?_ (fun hHeld => ?_)
        · exact ⟨fkeep fk1 a0_0, fkeep fk1 a0_1, fkeep fk1 a0_2, fkeep fk1 a1_0, fkeep fk1 a1_1, fkeep fk1 a1_2, fkeep fk1 a1_3, fkeep fk1 a1_4⟩
        clear hK K
        try simp only [Act.put, List.getElem_toArray, List.getElem_cons_succ, List.getElem_cons_zero, List.setIfInBounds_toArray, List.set_cons_zero, List.set_cons_succ]
        refine hd_ready (rs := [3, 8]) (by kernel_rfl) (by simp) ?_
        refine hd_cons (i := 3) rfl (by kernel_rfl) (fun K hK => ?_) ?_
        · skip
          go_simp
          go_at_call 26
          refine (toLight_k _ x1 _ (HI1.out.keep (fstep HF.out fk1))).mono ?_
          rintro e wk2 ⟨u1, rfl, hy1, hb1⟩
          have fk2 := fstep fk1 hb1
          go_wp2_with fail
          refine hK.out _ _ ?_ (fun hHeld => ?_)
          · exact ⟨fkeep fk2 a0_0, fkeep fk2 a0_1, fkeep fk2 a0_2, fkeep fk2 a1_0, fkeep fk2 a1_1, fkeep fk2 a1_2, fkeep fk2 a1_3, fkeep fk2 a1_4⟩
          clear hK K
          try simp only [Act.put, List.getElem_toArray, List.getElem_cons_succ, List.getElem_cons_zero, List.setIfInBounds_toArray, List.set_cons_zero, List.set_cons_succ]
          refine hd_ready (rs := [4, 8]) (by kernel_rfl) (by simp) ?_
          refine hd_cons (i := 4) rfl (by kernel_rfl) (fun K hK => ?_) ?_
          · skip
            go_simp
            go_at_call 27
            have hcc := implAddLight_any _ x0 _ x1 _ (hy0.keep hb1) hy1
            rw [← HR0.out, ← HR1.out] at hcc
            refine hcc.mono ?_
            clear hcc
            rintro e wk3 ⟨vH, rfl, how, hbr⟩
            obtain ⟨qH, mH, cH, fH, kH, dH, tH, iH, eH, hvv⟩ := how.shape
            subst hvv
            have fk3 := fstep fk2 hbr
            go_wp2_with fail
            refine hK.out _ _ ?_ (fun hHeld => ?_)
            · exact ⟨fkeep fk3 a0_0, fkeep fk3 a0_1, fkeep fk3 a0_2, fkeep fk3 a1_0, fkeep fk3 a1_1, fkeep fk3 a1_2, fkeep fk3 a1_3, fkeep fk3 a1_4⟩
            clear hK K
            try simp only [Act.put, List.getElem_toArray, List.getElem_cons_succ, List.getElem_cons_zero, List.setIfInBounds_toArray, List.set_cons_zero, List.set_cons_succ]
            refine hd_take (i := 5) (v := ?_) rfl (by kernel_rfl) (by kernel_rfl) (by kernel_rfl) (by kernel_rfl) (fun _ _ _ h => h) (by assumption) (Or.inl ⟨by rfl, ?_⟩) ?_
            rotate_left
            · (intro w hSw; (try dsimp only at hSw); go_simp; first | done | with_reducible rfl)
            try simp only [Act.put, List.getElem_toArray, List.getElem_cons_succ, List.getElem_cons_zero, List.setIfInBounds_toArray, List.set_cons_zero, List.set_cons_succ]
            refine hd_take (i := 6) (v := ?_) rfl (by kernel_rfl) (by kernel_rfl) (by kernel_rfl) (by kernel_rfl) (fun _ _ _ h => h) (by assumption) (Or.inl ⟨by rfl, ?_⟩) ?_
            rotate_left
            · (intro w hSw; (try dsimp only at hSw); go_simp; first | done | with_reducible rfl)
            try simp only [Act.put, List.getElem_toArray, List.getElem_cons_succ, List.getElem_cons_zero, List.setIfInBounds_toArray, List.set_cons_zero, List.set_cons_succ]
            refine hd_take (i := 7) (v := ?_) rfl (by kernel_rfl) (by kernel_rfl) (by kernel_rfl) (by kernel_rfl) (fun _ _ _ h => h) (by assumption) (Or.inl ⟨by rfl, ?_⟩) ?_
            rotate_left
            · (intro w hSw; (try dsimp only at hSw); go_simp; first | done | with_reducible rfl)
            try simp only [Act.put, List.getElem_toArray, List.getElem_cons_succ, List.getElem_cons_zero, List.setIfInBounds_toArray, List.set_cons_zero, List.set_cons_succ]
            refine hd_one (i := 8) rfl (by kernel_rfl) (by kernel_rfl) (fun K hK => ?_)
            go_simp
            obtain ⟨wk4, hwa⟩ : ∃ W, W = wk3.alloc (.cells #[.slice none 0 0, .slice none 0 0, .slice none 0 0] 41) := ⟨_, rfl⟩
            rw [← hwa]
            have hba : Fresh wk3 wk4 := by rw [hwa]; exact fnew (frefl _) _
            have ra : RowAt wk4 wk3.heap.size 41 [.slice none 0 0, .slice none 0 0, .slice none 0 0] := by rw [hwa]; exact RowAt.new _ _ _
            have hga : w15.heap.size ≤ wk3.heap.size := fk3.size
            have fk4 := fstep fk3 hba
            clear hwa
            refine hK.out _ _ ?_ (fun hHeld => ?_)
            · exact ⟨fkeep fk4 a0_0, fkeep fk4 a0_1, fkeep fk4 a0_2, fkeep fk4 a1_0, fkeep fk4 a1_1, fkeep fk4 a1_2, fkeep fk4 a1_3, fkeep fk4 a1_4⟩
            clear hK K
            try simp only [Act.put, List.getElem_toArray, List.getElem_cons_succ, List.getElem_cons_zero, List.setIfInBounds_toArray, List.set_cons_zero, List.set_cons_succ]
            have rb := ra
            have z0 := rb.cell (i := 0) rfl
            have z1 := rb.cell (i := 1) rfl
            have z2 := rb.cell (i := 2) rfl
            have u0 := rb.frozen 0
            have u1 := rb.frozen 1
            have u2 := rb.frozen 2
            have fs := (fset (fset (fset fk4 hga (o := 0) (.slice qH mH cH)) hga (o := 1) (.slice fH kH dH)) hga (o := 2) (.slice tH iH eH))
            refine hd_one (i := 9) rfl (by kernel_rfl) (by kernel_rfl) (fun K hK => ?_)
            (go_simp)
            refine hK.out _ _ ?_ (fun hHeld => ?_)
            · exact ⟨fkeep fs a0_0, fkeep fs a0_1, fkeep fs a0_2, fkeep fs a1_0, fkeep fs a1_1, fkeep fs a1_2, fkeep fs a1_3, fkeep fs a1_4⟩
            clear hK K
            try simp only [Act.put, List.getElem_toArray, List.getElem_cons_succ, List.getElem_cons_zero, List.setIfInBounds_toArray, List.set_cons_zero, List.set_cons_succ]
            refine hd_done (by kernel_rfl) ?_
            clear hHeld
            simp only [List.drop_succ_cons, List.drop_zero]
            go_wp2_with fail
            go_meet
            have hrow := (((rb.set 0 (.slice qH mH cH)).set 1 (.slice fH kH dH)).set 2 (.slice tH iH eH))
            exact ⟨_, _, _, _, _, _, _, _, _, _, rfl, rfl, hrow, ((how.keep hba).box rb).held.wide (Nat.zero_le _) (Nat.le_refl _), fs, hga⟩
          · refine hd_cons (i := 8) rfl (by kernel_rfl) (fun K hK => ?_) hd_nil
            go_simp
            obtain ⟨wk5, hwa⟩ : ∃ W, W = wk2.alloc (.cells #[.slice none 0 0, .slice none 0 0, .slice none 0 0] 41) := ⟨_, rfl⟩
            rw [← hwa]
            have hba : Fresh wk2 wk5 := by rw [hwa]; exact fnew (frefl _) _
            have ra : RowAt wk5 wk2.heap.size 41 [.slice none 0 0, .slice none 0 0, .slice none 0 0] := by rw [hwa]; exact RowAt.new _ _ _
            have hga : w15.heap.size ≤ wk2.heap.size := fk2.size
            have fk5 := fstep fk2 hba
            clear hwa
            refine hK.out _ _ ?_ (fun hHeld => ?_)
            · exact ⟨fkeep fk5 a0_0, fkeep fk5 a0_1, fkeep fk5 a0_2, fkeep fk5 a1_0, fkeep fk5 a1_1, fkeep fk5 a1_2, fkeep fk5 a1_3, fkeep fk5 a1_4⟩
            clear hK K
            try simp only [Act.put, List.getElem_toArray, List.getElem_cons_succ, List.getElem_cons_zero, List.setIfInBounds_toArray, List.set_cons_zero, List.set_cons_succ]
            refine hd_one (i := 4) rfl (by kernel_rfl) (by kernel_rfl) (fun K hK => ?_)
            go_simp
            go_at_call 27
            have hcc := implAddLight_any _ x0 _ x1 _ ((hy0.keep hb1).keep hba) (hy1.keep hba)
            rw [← HR0.out, ← HR1.out] at hcc
            refine hcc.mono ?_
            clear hcc
            rintro e wk6 ⟨vH, rfl, how, hbr⟩
            obtain ⟨qH, mH, cH, fH, kH, dH, tH, iH, eH, hvv⟩ := how.shape
            subst hvv
            have fk6 := fstep fk5 hbr
            go_wp2_with fail
            refine hK.out _ _ ?_ (fun hHeld => ?_)
            · exact ⟨fkeep fk6 a0_0, fkeep fk6 a0_1, fkeep fk6 a0_2, fkeep fk6 a1_0, fkeep fk6 a1_1, fkeep fk6 a1_2, fkeep fk6 a1_3, fkeep fk6 a1_4⟩
            clear hK K
            try simp only [Act.put, List.getElem_toArray, List.getElem_cons_succ, List.getElem_cons_zero, List.setIfInBounds_toArray, List.set_cons_zero, List.set_cons_succ]
            refine hd_take (i := 5) (v := ?_) rfl (by kernel_rfl) (by kernel_rfl) (by kernel_rfl) (by kernel_rfl) (fun _ _ _ h => h) (by assumption) (Or.inl ⟨by rfl, ?_⟩) ?_
            rotate_left
            · (intro w hSw; (try dsimp only at hSw); go_simp; first | done | with_reducible rfl)
            try simp only [Act.put, List.getElem_toArray, List.getElem_cons_succ, List.getElem_cons_zero, List.setIfInBounds_toArray, List.set_cons_zero, List.set_cons_succ]
            refine hd_take (i := 6) (v := ?_) rfl (by kernel_rfl) (by kernel_rfl) (by kernel_rfl) (by kernel_rfl) (fun _ _ _ h => h) (by assumption) (Or.inl ⟨by rfl, ?_⟩) ?_
            rotate_left
            · (intro w hSw; (try dsimp only at hSw); go_simp; first | done | with_reducible rfl)
            try simp only [Act.put, List.getElem_toArray, List.getElem_cons_succ, List.getElem_cons_zero, List.setIfInBounds_toArray, List.set_cons_zero, List.set_cons_succ]
            refine hd_take (i := 7) (v := ?_) rfl (by kernel_rfl) (by kernel_rfl) (by kernel_rfl) (by kernel_rfl) (fun _ _ _ h => h) (by assumption) (Or.inl ⟨by rfl, ?_⟩) ?_
            rotate_left
            · (intro w hSw; (try dsimp only at hSw); go_simp; first | done | with_reducible rfl)
            try simp only [Act.put, List.getElem_toArray, List.getElem_cons_succ, List.getElem_cons_zero, List.setIfInBounds_toArray, List.set_cons_zero, List.set_cons_succ]
            have rb := (ra.keep hbr)
            have z0 := rb.cell (i := 0) rfl
            have z1 := rb.cell (i := 1) rfl
            have z2 := rb.cell (i := 2) rfl
            have u0 := rb.frozen 0
            have u1 := rb.frozen 1
            have u2 := rb.frozen 2
            have fs := (fset (fset (fset fk6 hga (o := 0) (.slice qH mH cH)) hga (o := 1) (.slice fH kH dH)) hga (o := 2) (.slice tH iH eH))
            refine hd_one (i := 9) rfl (by kernel_rfl) (by kernel_rfl) (fun K hK => ?_)
            (go_simp)
            refine hK.out _ _ ?_ (fun hHeld => ?_)
            · exact ⟨fkeep fs a0_0, fkeep fs a0_1, fkeep fs a0_2, fkeep fs a1_0, fkeep fs a1_1, fkeep fs a1_2, fkeep fs a1_3, fkeep fs a1_4⟩
            clear hK K
            try simp only [Act.put, List.getElem_toArray, List.getElem_cons_succ, List.getElem_cons_zero, List.setIfInBounds_toArray, List.set_cons_zero, List.set_cons_succ]
            refine hd_done (by kernel_rfl) ?_
            clear hHeld
            simp only [List.drop_succ_cons, List.drop_zero]
            go_wp2_with fail
            go_meet
            have hrow := (((rb.set 0 (.slice qH mH cH)).set 1 (.slice fH kH dH)).set 2 (.slice tH iH eH))
            exact ⟨_, _, _, _, _, _, _, _, _, _, rfl, rfl, hrow, (how.box rb).held.wide (Nat.zero_le _) (Nat.le_refl _), fs, hga⟩
        · refine hd_cons (i := 8) rfl (by kernel_rfl) (fun K hK => ?_) hd_nil
          go_simp
          obtain ⟨wk7, hwa⟩ : ∃ W, W = wk1.alloc (.cells #[.slice none 0 0, .slice none 0 0, .slice none 0 0] 41) := ⟨_, rfl⟩
          rw [← hwa]
          have hba : Fresh wk1 wk7 := by rw [hwa]; exact fnew (frefl _) _
          have ra : RowAt wk7 wk1.heap.size 41 [.slice none 0 0, .slice none 0 0, .slice none 0 0] := by rw [hwa]; exact RowAt.new _ _ _
          have hga : w15.heap.size ≤ wk1.heap.size := fk1.size
          have fk7 := fstep fk1 hba
          clear hwa
          refine hK.out _ _ ?_ (fun hHeld => ?_)
          · exact ⟨fkeep fk7 a0_0, fkeep fk7 a0_1, fkeep fk7 a0_2, fkeep fk7 a1_0, fkeep fk7 a1_1, fkeep fk7 a1_2, fkeep fk7 a1_3, fkeep fk7 a1_4⟩
          clear hK K
          try simp only [Act.put, List.getElem_toArray, List.getElem_cons_succ, List.getElem_cons_zero, List.setIfInBounds_toArray, List.set_cons_zero, List.set_cons_succ]
          refine hd_one (i := 3) rfl (by kernel_rfl) (by kernel_rfl) (fun K hK => ?_)
          go_simp
          go_at_call 26
          refine (toLight_k _ x1 _ (HI1.out.keep (fstep HF.out fk7))).mono ?_
          rintro e wk8 ⟨u1, rfl, hy1, hb1⟩
          have fk8 := fstep fk7 hb1
          go_wp2_with fail
          refine hK.out _ _ ?_ (fun hHeld => ?_)
          · exact ⟨fkeep fk8 a0_0, fkeep fk8 a0_1, fkeep fk8 a0_2, fkeep fk8 a1_0, fkeep fk8 a1_1, fkeep fk8 a1_2, fkeep fk8 a1_3, fkeep fk8 a1_4⟩
          clear hK K
          try simp only [Act.put, List.getElem_toArray, List.getElem_cons_succ, List.getElem_cons_zero, List.setIfInBounds_toArray, List.set_cons_zero, List.set_cons_succ]
          refine hd_one (i := 4) rfl (by kernel_rfl) (by kernel_rfl) (fun K hK => ?_)
          go_simp
          go_at_call 27
          have hcc := implAddLight_any _ x0 _ x1 _ ((hy0.keep hba).keep hb1) hy1
          rw [← HR0.out, ← HR1.out] at hcc
          refine hcc.mono ?_
          clear hcc
          rintro e wk9 ⟨vH, rfl, how, hbr⟩
          obtain ⟨qH, mH, cH, fH, kH, dH, tH, iH, eH, hvv⟩ := how.shape
          subst hvv
          have fk9 := fstep fk8 hbr
          go_wp2_with fail
          refine hK.out _ _ ?_ (fun hHeld => ?_)
          · exact ⟨fkeep fk9 a0_0, fkeep fk9 a0_1, fkeep fk9 a0_2, fkeep fk9 a1_0, fkeep fk9 a1_1, fkeep fk9 a1_2, fkeep fk9 a1_3, fkeep fk9 a1_4⟩
          clear hK K
          try simp only [Act.put, List.getElem_toArray, List.getElem_cons_succ, List.getElem_cons_zero, List.setIfInBounds_toArray, List.set_cons_zero, List.set_cons_succ]
          refine hd_take (i := 5) (v := ?_) rfl (by kernel_rfl) (by kernel_rfl) (by kernel_rfl) (by kernel_rfl) (fun _ _ _ h => h) (by assumption) (Or.inl ⟨by rfl, ?_⟩) ?_
          rotate_left
          · (intro w hSw; (try dsimp only at hSw); go_simp; first | done | with_reducible rfl)
          try simp only [Act.put, List.getElem_toArray, List.getElem_cons_succ, List.getElem_cons_zero, List.setIfInBounds_toArray, List.set_cons_zero, List.set_cons_succ]
          refine hd_take (i := 6) (v := ?_) rfl (by kernel_rfl) (by kernel_rfl) (by kernel_rfl) (by kernel_rfl) (fun _ _ _ h => h) (by assumption) (Or.inl ⟨by rfl, ?_⟩) ?_
          rotate_left
          · (intro w hSw; (try dsimp only at hSw); go_simp; first | done | with_reducible rfl)
          try simp only [Act.put, List.getElem_toArray, List.getElem_cons_succ, List.getElem_cons_zero, List.setIfInBounds_toArray, List.set_cons_zero, List.set_cons_succ]
          refine hd_take (i := 7) (v := ?_) rfl (by kernel_rfl) (by kernel_rfl) (by kernel_rfl) (by kernel_rfl) (fun _ _ _ h => h) (by assumption) (Or.inl ⟨by rfl, ?_⟩) ?_
          rotate_left
          · (intro w hSw; (try dsimp only at hSw); go_simp; first | done | with_reducible rfl)
          try simp only [Act.put, List.getElem_toArray, List.getElem_cons_succ, List.getElem_cons_zero, List.setIfInBounds_toArray, List.set_cons_zero, List.set_cons_succ]
          have rb := ((ra.keep hb1).keep hbr)
          have z0 := rb.cell (i := 0) rfl
          have z1 := rb.cell (i := 1) rfl
          have z2 := rb.cell (i := 2) rfl
          have u0 := rb.frozen 0
          have u1 := rb.frozen 1
          have u2 := rb.frozen 2
          have fs := (fset (fset (fset fk9 hga (o := 0) (.slice qH mH cH)) hga (o := 1) (.slice fH kH dH)) hga (o := 2) (.slice tH iH eH))
          refine hd_one (i := 9) rfl (by kernel_rfl) (by kernel_rfl) (fun K hK => ?_)
          (go_simp)
          refine hK.out _ _ ?_ (fun hHeld => ?_)
          · exact ⟨fkeep fs a0_0, fkeep fs a0_1, fkeep fs a0_2, fkeep fs a1_0, fkeep fs a1_1, fkeep fs a1_2, fkeep fs a1_3, fkeep fs a1_4⟩
          clear hK K
          try simp only [Act.put, List.getElem_toArray, List.getElem_cons_succ, List.getElem_cons_zero, List.setIfInBounds_toArray, List.set_cons_zero, List.set_cons_succ]
          refine hd_done (by kernel_rfl) ?_
          clear hHeld
          simp only [List.drop_succ_cons, List.drop_zero]
          go_wp2_with fail
          go_meet
          have hrow := (((rb.set 0 (.slice qH mH cH)).set 1 (.slice fH kH dH)).set 2 (.slice tH iH eH))
          exact ⟨_, _, _, _, _, _, _, _, _, _, rfl, rfl, hrow, (how.box rb).held.wide (Nat.zero_le _) (Nat.le_refl _), fs, hga⟩
      · refine hd_cons (i := 8) rfl (by kernel_rfl) (fun K hK => ?_) hd_nil
        go_simp
        obtain ⟨wk10, hwa⟩ : ∃ W, W = Wz.alloc (.cells #[.slice none 0 0, .slice none 0 0, .slice none 0 0] 41) := ⟨_, rfl⟩
        rw [← hwa]
        have hba : Fresh Wz wk10 := by rw [hwa]; exact fnew (frefl _) _
        have ra : RowAt wk10 Wz.heap.size 41 [.slice none 0 0, .slice none 0 0, .slice none 0 0] := by rw [hwa]; exact RowAt.new _ _ _
        have hga : w15.heap.size ≤ Wz.heap.size := f0.size
        have fk10 := fstep f0 hba
        clear hwa
        refine hK.out _ _ ?_ (fun hHeld => ?_)
        · exact ⟨fkeep fk10 a0_0, fkeep fk10 a0_1, fkeep fk10 a0_2, fkeep fk10 a1_0, fkeep fk10 a1_1, fkeep fk10 a1_2, fkeep fk10 a1_3, fkeep fk10 a1_4⟩
        clear hK K
        try simp only [Act.put, List.getElem_toArray, List.getElem_cons_succ, List.getElem_cons_zero, List.setIfInBounds_toArray, List.set_cons_zero, List.set_cons_succ]
        refine hd_one (i := 1) rfl (by kernel_rfl) (by kernel_rfl) (fun K hK => ?_)
        go_simp
        go_at_call 9
        refine (toPlan_k _ x0 _ (HI0.out.keep (fstep HF.out fk10))).mono ?_
        rintro e wk11 ⟨u0, rfl, hy0, hb0⟩
        have fk11 := fstep fk10 hb0
        go_wp2_with fail
        refine hK.out _ _ ?_ (fun hHeld => ?_)
        · exact ⟨fkeep fk11 a0_0, fkeep fk11 a0_1, fkeep fk11 a0_2, fkeep fk11 a1_0, fkeep fk11 a1_1, fkeep fk11 a1_2, fkeep fk11 a1_3, fkeep fk11 a1_4⟩
        clear hK K
        try simp only [Act.put, List.getElem_toArray, List.getElem_cons_succ, List.getElem_cons_zero, List.setIfInBounds_toArray, List.set_cons_zero, List.set_cons_succ]
        refine hd_one (i := 3) rfl (by kernel_rfl) (by kernel_rfl) (fun K hK => ?_)
        go_simp
        go_at_call 26
        refine (toLight_k _ x1 _ (HI1.out.keep (fstep HF.out fk11))).mono ?_
        rintro e wk12 ⟨u1, rfl, hy1, hb1⟩
        have fk12 := fstep fk11 hb1
        go_wp2_with fail
        refine hK.out _ _ ?_ (fun hHeld => ?_)
        · exact ⟨fkeep fk12 a0_0, fkeep fk12 a0_1, fkeep fk12 a0_2, fkeep fk12 a1_0, fkeep fk12 a1_1, fkeep fk12 a1_2, fkeep fk12 a1_3, fkeep fk12 a1_4⟩
        clear hK K
        try simp only [Act.put, List.getElem_toArray, List.getElem_cons_succ, List.getElem_cons_zero, List.setIfInBounds_toArray, List.set_cons_zero, List.set_cons_succ]
        refine hd_one (i := 4) rfl (by kernel_rfl) (by kernel_rfl) (fun K hK => ?_)
        go_simp
        go_at_call 27
        have hcc := implAddLight_any _ x0 _ x1 _ (hy0.keep hb1) hy1
        rw [← HR0.out, ← HR1.out] at hcc
        refine hcc.mono ?_
        clear hcc
        rintro e wk13 ⟨vH, rfl, how, hbr⟩
        obtain ⟨qH, mH, cH, fH, kH, dH, tH, iH, eH, hvv⟩ := how.shape
        subst hvv
        have fk13 := fstep fk12 hbr
        go_wp2_with fail
        refine hK.out _ _ ?_ (fun hHeld => ?_)
        · exact ⟨fkeep fk13 a0_0, fkeep fk13 a0_1, fkeep fk13 a0_2, fkeep fk13 a1_0, fkeep fk13 a1_1, fkeep fk13 a1_2, fkeep fk13 a1_3, fkeep fk13 a1_4⟩
        clear hK K
        try simp only [Act.put, List.getElem_toArray, List.getElem_cons_succ, List.getElem_cons_zero, List.setIfInBounds_toArray, List.set_cons_zero, List.set_cons_succ]
        refine hd_take (i := 5) (v := ?_) rfl (by kernel_rfl) (by kernel_rfl) (by kernel_rfl) (by kernel_rfl) (fun _ _ _ h => h) (by assumption) (Or.inl ⟨by rfl, ?_⟩) ?_
        rotate_left
        · (intro w hSw; (try dsimp only at hSw); go_simp; first | done | with_reducible rfl)
        try simp only [Act.put, List.getElem_toArray, List.getElem_cons_succ, List.getElem_cons_zero, List.setIfInBounds_toArray, List.set_cons_zero, List.set_cons_succ]
        refine hd_take (i := 6) (v := ?_) rfl (by kernel_rfl) (by kernel_rfl) (by kernel_rfl) (by kernel_rfl) (fun _ _ _ h => h) (by assumption) (Or.inl ⟨by rfl, ?_⟩) ?_
        rotate_left
        · (intro w hSw; (try dsimp only at hSw); go_simp; first | done | with_reducible rfl)
        try simp only [Act.put, List.getElem_toArray, List.getElem_cons_succ, List.getElem_cons_zero, List.setIfInBounds_toArray, List.set_cons_zero, List.set_cons_succ]
        refine hd_take (i := 7) (v := ?_) rfl (by kernel_rfl) (by kernel_rfl) (by kernel_rfl) (by kernel_rfl) (fun _ _ _ h => h) (by assumption) (Or.inl ⟨by rfl, ?_⟩) ?_
        rotate_left
        · (intro w hSw; (try dsimp only at hSw); go_simp; first | done | with_reducible rfl)
        try simp only [Act.put, List.getElem_toArray, List.getElem_cons_succ, List.getElem_cons_zero, List.setIfInBounds_toArray, List.set_cons_zero, List.set_cons_succ]
        have rb := (((ra.keep hb0).keep hb1).keep hbr)
        have z0 := rb.cell (i := 0) rfl
        have z1 := rb.cell (i := 1) rfl
        have z2 := rb.cell (i := 2) rfl
        have u0 := rb.frozen 0
        have u1 := rb.frozen 1
        have u2 := rb.frozen 2
        have fs := (fset (fset (fset fk13 hga (o := 0) (.slice qH mH cH)) hga (o := 1) (.slice fH kH dH)) hga (o := 2) (.slice tH iH eH))
        refine hd_one (i := 9) rfl (by kernel_rfl) (by kernel_rfl) (fun K hK => ?_)
        (go_simp)
        refine hK.out _ _ ?_ (fun hHeld => ?_)
        · exact ⟨fkeep fs a0_0, fkeep fs a0_1, fkeep fs a0_2, fkeep fs a1_0, fkeep fs a1_1, fkeep fs a1_2, fkeep fs a1_3, fkeep fs a1_4⟩
        clear hK K
        try simp only [Act.put, List.getElem_toArray, List.getElem_cons_succ, List.getElem_cons_zero, List.setIfInBounds_toArray, List.set_cons_zero, List.set_cons_succ]
        refine hd_done (by kernel_rfl) ?_
        clear hHeld
        simp only [List.drop_succ_cons, List.drop_zero]
        go_wp2_with fail
        go_meet
        have hrow := (((rb.set 0 (.slice qH mH cH)).set 1 (.slice fH kH dH)).set 2 (.slice tH iH eH))
        exact ⟨_, _, _, _, _, _, _, _, _, _, rfl, rfl, hrow, (how.box rb).held.wide (Nat.zero_le _) (Nat.le_refl _), fs, hga⟩
    case rest =>
      obtain ⟨gbH, qH, mH, cH, fH, kH, dH, tH, iH, eH, rfl, rfl, hrowH, howH, hb, hgbH⟩ := hcut
      have HRH := Lib.hid howH
      have bH_0 := hrowH.cell (i := 0) rfl
      have bH_1 := hrowH.cell (i := 1) rfl
      have bH_2 := hrowH.cell (i := 2) rfl
      have HSZ19 := Lib.hid (show gbH < wc.heap.size from hrowH.lt)
      have HSZ20 := Lib.hid hgbH
      obtain ⟨wcH, hwc⟩ : ∃ W, W = wc := ⟨_, rfl⟩
      subst hwc
      clear hrowH howH hgbH
      have HSZ21 := Lib.hid (hb.size)
      replace a0_0 := fkeep hb a0_0
      replace a0_1 := fkeep hb a0_1
      replace a0_2 := fkeep hb a0_2
      replace a1_0 := fkeep hb a1_0
      replace a1_1 := fkeep hb a1_1
      replace a1_2 := fkeep hb a1_2
      replace a1_3 := fkeep hb a1_3
      replace a1_4 := fkeep hb a1_4
      replace bW_0 := fkeep hb bW_0
      replace bW_1 := fkeep hb bW_1
      replace bW_2 := fkeep hb bW_2
      replace bG_0 := fkeep hb bG_0
      replace bG_1 := fkeep hb bG_1
      replace bG_2 := fkeep hb bG_2
      have HF := Lib.hid (fstep HF.out hb)
      replace HRW := Lib.hid (HRW.out.keep hb)
      replace HG := Lib.hid (HG.out.keep hb)
      clear hb
      go_wp2_with fail
      refine (eqPl_r _ _ _ _ _ _ r0 _ (HRH.out) (HRW.out) HSM.out).mono ?_
      rintro e w16 ⟨rfl, hb⟩
      have HSZ22 := Lib.hid (hb.size)
      replace a0_0 := fkeep hb a0_0
      replace a0_1 := fkeep hb a0_1
      replace a0_2 := fkeep hb a0_2
      replace a1_0 := fkeep hb a1_0
      replace a1_1 := fkeep hb a1_1
      replace a1_2 := fkeep hb a1_2
      replace a1_3 := fkeep hb a1_3
      replace a1_4 := fkeep hb a1_4
      replace bW_0 := fkeep hb bW_0
      replace bW_1 := fkeep hb bW_1
      replace bW_2 := fkeep hb bW_2
      replace bG_0 := fkeep hb bG_0
      replace bG_1 := fkeep hb bG_1
      replace bG_2 := fkeep hb bG_2
      replace bH_0 := fkeep hb bH_0
      replace bH_1 := fkeep hb bH_1
      replace bH_2 := fkeep hb bH_2
      have HF := Lib.hid (fstep HF.out hb)
      replace HRW := Lib.hid (HRW.out.keep hb)
      replace HG := Lib.hid (HG.out.keep hb)
      replace HRH := Lib.hid (HRH.out.keep hb)
      clear hb
      go_wp2_with fail
      refine (heldPl_o _ _ r0 1 _ _ HG.out HSM.out (by omega) (by omega)).mono ?_
      rintro e w17 ⟨rfl, hb⟩
      have HSZ23 := Lib.hid (hb.size)
      replace a0_0 := fkeep hb a0_0
      replace a0_1 := fkeep hb a0_1
      replace a0_2 := fkeep hb a0_2
      replace a1_0 := fkeep hb a1_0
      replace a1_1 := fkeep hb a1_1
      replace a1_2 := fkeep hb a1_2
      replace a1_3 := fkeep hb a1_3
      replace a1_4 := fkeep hb a1_4
      replace bW_0 := fkeep hb bW_0
      replace bW_1 := fkeep hb bW_1
      replace bW_2 := fkeep hb bW_2
      replace bG_0 := fkeep hb bG_0
      replace bG_1 := fkeep hb bG_1
      replace bG_2 := fkeep hb bG_2
      replace bH_0 := fkeep hb bH_0
      replace bH_1 := fkeep hb bH_1
      replace bH_2 := fkeep hb bH_2
      have HF := Lib.hid (fstep HF.out hb)
      replace HRW := Lib.hid (HRW.out.keep hb)
      replace HG := Lib.hid (HG.out.keep hb)
      replace HRH := Lib.hid (HRH.out.keep hb)
      clear hb
      go_wp2
      go_ret
      exact ⟨rfl, HF.out⟩
end Go.Proofs.YtgiinjleehgkoaaGreat
