/- The walk of FnExactMoveLight. -/
import Derived.Test.YtgiinjleehgkoaaGreatMvs
import Derived.Test.YtgiinjleehgkoaaGreatPm3
import Derived.Test.YtgiinjleehgkoaaGreatMl
import Derived.Test.YtgiinjleehgkoaaGreatU1
import Derived.Test.YtgiinjleehgkoaaGreatU3
import Derived.Test.YtgiinjleehgkoaaGreatKm
import Derived.Test.YtgiinjleehgkoaaGreatHd
import Derived.Deep.RegionHeld3
import Derived.Deep.DeepCutAuto
namespace Go.Proofs.YtgiinjleehgkoaaGreat
open Go.RowKit Go.PlainAid

set_option maxHeartbeats 4000000 in
set_option maxRecDepth 100000 in
theorem law_MoveLight (v0 : Value) (x0 : PlanV) (x1 : Int) (v2 : Value) (x2 : Int × List Int) (f3a n3a : Int) (w : World) (h0 : PlRaw w v0 x0) (bx1 : -9223372036854775808 ≤ x1 ∧ x1 ≤ 9223372036854775807) (h2 : RtRaw w v2 x2) :
    Calls Tryz.prog 3 #[v0, .int .i64 x1, v2, .agg #[.int .i64 f3a, .int .i64 n3a]] w fun e w' => e = .returned (.bool true) ∧ Fresh w w' := by
  obtain ⟨bl1, bh1⟩ := bx1
  obtain ⟨q0a, m0a, c0a, p0a, k0a, d0a, r0a, i0a, e0a, hv0⟩ := h0.shape
  subst hv0
  obtain ⟨s2a, q2a, m2a, c2a, hv2⟩ := h2.shape
  subst hv2
  have HI0 := Lib.hid h0
  clear h0
  have HI2 := Lib.hid h2
  clear h2
  obtain ⟨r0, hr0⟩ : ∃ r0, r0 = (mvF x0 x1 x2 (f3a, n3a)).1 := ⟨_, rfl⟩
  have HR0 := Lib.hid hr0
  clear hr0
  obtain ⟨r1, hr1⟩ : ∃ r1, r1 = (mvF x0 x1 x2 (f3a, n3a)).2 := ⟨_, rfl⟩
  have HR1 := Lib.hid hr1
  clear hr1
  obtain ⟨B0, hB0⟩ : ∃ B, B = w.alloc (.cells #[.slice q0a m0a c0a, .slice p0a k0a d0a, .slice r0a i0a e0a] 28) := ⟨_, rfl⟩
  have hz0 : B0.heap.size = w.heap.size + 1 := by rw [hB0]; simp
  have hf0 : Fresh w B0 := by rw [hB0]; exact fnew (frefl _) _
  have hrow0 : RowAt B0 w.heap.size 28 [.slice q0a m0a c0a, .slice p0a k0a d0a, .slice r0a i0a e0a] := by rw [hB0]; exact RowAt.new _ _ _
  obtain ⟨B2, hB2⟩ : ∃ B, B = B0.alloc (.cells #[.int .i64 s2a, .slice q2a m2a c2a] 31) := ⟨_, rfl⟩
  have hz2 : B2.heap.size = B0.heap.size + 1 := by rw [hB2]; simp
  have hf2 : Fresh B0 B2 := by rw [hB2]; exact fnew (frefl _) _
  have hrow2 : RowAt B2 B0.heap.size 31 [.int .i64 s2a, .slice q2a m2a c2a] := by rw [hB2]; exact RowAt.new _ _ _
  obtain ⟨B3, hB3⟩ : ∃ B, B = B2.alloc (.cells #[.int .i64 f3a, .int .i64 n3a] 33) := ⟨_, rfl⟩
  have hz3 : B3.heap.size = B2.heap.size + 1 := by rw [hB3]; simp
  have hf3 : Fresh B2 B3 := by rw [hB3]; exact fnew (frefl _) _
  have hrow3 : RowAt B3 B2.heap.size 33 [.int .i64 f3a, .int .i64 n3a] := by rw [hB3]; exact RowAt.new _ _ _
  replace hrow0 := hrow0.keep hf2
  replace hrow0 := hrow0.keep hf3
  replace hrow2 := hrow2.keep hf3
  have HF := Lib.hid (fstep (fstep (fstep (frefl w) hf0) hf2) hf3)
  have a0_0 := hrow0.cell (i := 0) rfl
  have a0_1 := hrow0.cell (i := 1) rfl
  have a0_2 := hrow0.cell (i := 2) rfl
  have a2_0 := hrow2.cell (i := 0) rfl
  have a2_1 := hrow2.cell (i := 1) rfl
  have a3_0 := hrow3.cell (i := 0) rfl
  have a3_1 := hrow3.cell (i := 1) rfl
  rw [hz0] at a2_0 a2_1
  rw [hz2, hz0] at a3_0 a3_1
  have HB := Lib.hid (And.intro hB0 (And.intro hB2 hB3))
  clear hB0 hz0 hf0 hrow0 hB2 hz2 hf2 hrow2 hB3 hz3 hf3 hrow3
  go_enter Tryz.func3, Tryz.ntmps3
  go_wp2_with fail
  rw [← HB.out.1, ← HB.out.2.1, ← HB.out.2.2]
  clear HB
  refine (szPlan_k _ x0 1048576 _ (PlRaw.keep HI0.out HF.out) (by omega) (by omega)).mono ?_
  rintro e w1 ⟨l0, rfl, l00, l01, hsm, hb⟩
  have HS0 := Lib.hid hsm
  clear hsm
  replace a0_0 := fkeep hb a0_0
  replace a0_1 := fkeep hb a0_1
  replace a0_2 := fkeep hb a0_2
  replace a2_0 := fkeep hb a2_0
  replace a2_1 := fkeep hb a2_1
  replace a3_0 := fkeep hb a3_0
  replace a3_1 := fkeep hb a3_1
  have HF := Lib.hid (fstep HF.out hb)
  clear hb
  by_cases hneg0 : l0 < 0
  · go_wp2
    go_ret
    exact ⟨rfl, HF.out⟩
  go_wp2_with fail
  refine (szRoute_k _ x2 l0 _ (RtRaw.keep HI2.out HF.out) (by omega) (by omega)).mono ?_
  rintro e w2 ⟨l2, rfl, l20, l21, hsm, hb⟩
  have HS2 := Lib.hid hsm
  clear hsm
  replace a0_0 := fkeep hb a0_0
  replace a0_1 := fkeep hb a0_1
  replace a0_2 := fkeep hb a0_2
  replace a2_0 := fkeep hb a2_0
  replace a2_1 := fkeep hb a2_1
  replace a3_0 := fkeep hb a3_0
  replace a3_1 := fkeep hb a3_1
  have HF := Lib.hid (fstep HF.out hb)
  clear hb
  by_cases hneg2 : l2 < 0
  · go_wp2
    go_ret
    exact ⟨rfl, HF.out⟩
  replace HI0 := Lib.hid (PlRaw.small HI0.out (HS0.out (by omega)))
  clear HS0
  replace HI2 := Lib.hid (RtRaw.small HI2.out (HS2.out (by omega)))
  clear HS2
  have hlen := mvF_small x0 x1 x2 (f3a, n3a) HI0.out.isSmall HI2.out.isSm
  rw [← HR0.out] at hlen
  have HSM := Lib.hid hlen
  clear hlen
  have HSZ0 := Lib.hid HF.out.size
  have HSZ1 := Lib.hid (World.block_lt_of_cell? _ _ a3_0)
  go_upto_region 8 with fail
  go_cut [10, 11] (fun z10 z11 wx => ∃ (gb : Nat) (qW : Option Addr) (mW : Nat) (cW : Nat) (fW : Option Addr) (kW : Nat) (dW : Nat) (tW : Option Addr) (iW : Nat) (eW : Nat), z10 = .pointer (some ⟨gb, 0, none⟩) ∧ z11 = .bool r1 ∧ RowAt wx gb 41 [.slice qW mW cW, .slice fW kW dW, .slice tW iW eW] ∧ PlHeld wx (0) wx.heap.size (.agg #[.slice qW mW cW, .slice fW kW dW, .slice tW iW eW]) r0 ∧ Fresh w2 wx ∧ w2.heap.size ≤ gb)
  case first =>
    refine hd_start (n := 13) (S := fun wz => wz.cell? ⟨w.heap.size, 0, none⟩ = some (.slice q0a m0a c0a) ∧ wz.cell? ⟨w.heap.size, 1, none⟩ = some (.slice p0a k0a d0a) ∧ wz.cell? ⟨w.heap.size, 2, none⟩ = some (.slice r0a i0a e0a) ∧ wz.cell? ⟨w.heap.size + 1, 0, none⟩ = some (.int .i64 s2a) ∧ wz.cell? ⟨w.heap.size + 1, 1, none⟩ = some (.slice q2a m2a c2a) ∧ wz.cell? ⟨w.heap.size + 1 + 1, 0, none⟩ = some (.int .i64 f3a) ∧ wz.cell? ⟨w.heap.size + 1 + 1, 1, none⟩ = some (.int .i64 n3a)) (by kernel_rfl) (by kernel_rfl) ⟨fkeep (fdrew (frefl _)) a0_0, fkeep (fdrew (frefl _)) a0_1, fkeep (fdrew (frefl _)) a0_2, fkeep (fdrew (frefl _)) a2_0, fkeep (fdrew (frefl _)) a2_1, fkeep (fdrew (frefl _)) a3_0, fkeep (fdrew (frefl _)) a3_1⟩ (fun hHeld => ?_)
    obtain ⟨Wz, hWz⟩ : ∃ W, W = w2.drew := ⟨_, rfl⟩
    rw [← hWz] at hHeld ⊢
    have f0 : Fresh w2 Wz := by rw [hWz]; exact fdrew (frefl _)
    clear hWz
    refine hd_take (i := 0) (v := ?_) rfl (by kernel_rfl) (by kernel_rfl) (by kernel_rfl) (by kernel_rfl) (fun _ _ _ h => h) (by assumption) (Or.inl ⟨by rfl, ?_⟩) ?_
    rotate_left
    · (intro w hSw; (try dsimp only at hSw); go_simp; first | done | with_reducible rfl)
    try simp only [Act.put, List.getElem_toArray, List.getElem_cons_succ, List.getElem_cons_zero, List.setIfInBounds_toArray, List.set_cons_zero, List.set_cons_succ]
    refine hd_take (i := 2) (v := ?_) rfl (by kernel_rfl) (by kernel_rfl) (by kernel_rfl) (by kernel_rfl) (fun _ _ _ h => h) (by assumption) (Or.inl ⟨by rfl, ?_⟩) ?_
    rotate_left
    · (intro w hSw; (try dsimp only at hSw); go_simp; first | done | with_reducible rfl)
    try simp only [Act.put, List.getElem_toArray, List.getElem_cons_succ, List.getElem_cons_zero, List.setIfInBounds_toArray, List.set_cons_zero, List.set_cons_succ]
    refine hd_take (i := 3) (v := ?_) rfl (by kernel_rfl) (by kernel_rfl) (by kernel_rfl) (by kernel_rfl) (fun _ _ _ h => h) (by assumption) (Or.inl ⟨by rfl, ?_⟩) ?_
    rotate_left
    · (intro w hSw; (try dsimp only at hSw); go_simp; first | done | with_reducible rfl)
    try simp only [Act.put, List.getElem_toArray, List.getElem_cons_succ, List.getElem_cons_zero, List.setIfInBounds_toArray, List.set_cons_zero, List.set_cons_succ]
    refine hd_take (i := 5) (v := ?_) rfl (by kernel_rfl) (by kernel_rfl) (by kernel_rfl) (by kernel_rfl) (fun _ _ _ h => h) (by assumption) (Or.inl ⟨by rfl, ?_⟩) ?_
    rotate_left
    · (intro w hSw; (try dsimp only at hSw); go_simp; first | done | with_reducible rfl)
    try simp only [Act.put, List.getElem_toArray, List.getElem_cons_succ, List.getElem_cons_zero, List.setIfInBounds_toArray, List.set_cons_zero, List.set_cons_succ]
    refine hd_ready (rs := [1, 11]) (by kernel_rfl) (by simp) ?_
    refine hd_cons (i := 1) rfl (by kernel_rfl) (fun K hK => ?_) ?_
    · skip
      go_simp
      go_at_call 9
      refine (toPlan_k _ x0 _ (HI0.out.keep (fstep HF.out f0))).mono ?_
      rintro e wk1 ⟨y0, rfl, hy0, hb0⟩
      have fk1 := fstep f0 hb0
      go_wp2_with fail
      refine hK.out _ _ ?_ (fun hHeld => ?_)
      · exact ⟨fkeep fk1 a0_0, fkeep fk1 a0_1, fkeep fk1 a0_2, fkeep fk1 a2_0, fkeep fk1 a2_1, fkeep fk1 a3_0, fkeep fk1 a3_1⟩
      clear hK K
      try simp only [Act.put, List.getElem_toArray, List.getElem_cons_succ, List.getElem_cons_zero, List.setIfInBounds_toArray, List.set_cons_zero, List.set_cons_succ]
      refine hd_ready (rs := [4, 11]) (by kernel_rfl) (by simp) ?_
      refine hd_cons (i := 4) rfl (by kernel_rfl) (fun K hK => ?_) ?_
      · skip
        go_simp
        go_at_call 10
        refine (toRoute_k _ x2 _ (HI2.out.keep (fstep HF.out fk1))).mono ?_
        rintro e wk2 ⟨y2, rfl, hy2, hb2⟩
        have fk2 := fstep fk1 hb2
        go_wp2_with fail
        refine hK.out _ _ ?_ (fun hHeld => ?_)
        · exact ⟨fkeep fk2 a0_0, fkeep fk2 a0_1, fkeep fk2 a0_2, fkeep fk2 a2_0, fkeep fk2 a2_1, fkeep fk2 a3_0, fkeep fk2 a3_1⟩
        clear hK K
        try simp only [Act.put, List.getElem_toArray, List.getElem_cons_succ, List.getElem_cons_zero, List.setIfInBounds_toArray, List.set_cons_zero, List.set_cons_succ]
        refine hd_ready (rs := [6, 11]) (by kernel_rfl) (by simp) ?_
        refine hd_cons (i := 6) rfl (by kernel_rfl) (fun K hK => ?_) ?_
        · skip
          go_simp
          go_at_call 11
          refine (toBlock_any f3a n3a _).mono ?_
          rintro e wk3 ⟨rfl, hb3⟩
          have fk3 := fstep fk2 hb3
          go_wp2_with fail
          refine hK.out _ _ ?_ (fun hHeld => ?_)
          · exact ⟨fkeep fk3 a0_0, fkeep fk3 a0_1, fkeep fk3 a0_2, fkeep fk3 a2_0, fkeep fk3 a2_1, fkeep fk3 a3_0, fkeep fk3 a3_1⟩
          clear hK K
          try simp only [Act.put, List.getElem_toArray, List.getElem_cons_succ, List.getElem_cons_zero, List.setIfInBounds_toArray, List.set_cons_zero, List.set_cons_succ]
          refine hd_ready (rs := [7, 11]) (by kernel_rfl) (by simp) ?_
          refine hd_cons (i := 7) rfl (by kernel_rfl) (fun K hK => ?_) ?_
          · skip
            go_simp
            go_at_call 8
            have hcc := specMoveLight_l _ x0 x1 _ x2 (f3a, n3a) _ ((hy0.keep hb2).keep hb3) (hy2.keep hb3)
            rw [← HR0.out, ← HR1.out] at hcc
            refine hcc.mono ?_
            clear hcc
            rintro e wk4 ⟨vW, rfl, how, hbr⟩
            obtain ⟨qW, mW, cW, fW, kW, dW, tW, iW, eW, hvv⟩ := how.shape
            subst hvv
            have fk4 := fstep fk3 hbr
            go_wp2_with fail
            refine hK.out _ _ ?_ (fun hHeld => ?_)
            · exact ⟨fkeep fk4 a0_0, fkeep fk4 a0_1, fkeep fk4 a0_2, fkeep fk4 a2_0, fkeep fk4 a2_1, fkeep fk4 a3_0, fkeep fk4 a3_1⟩
            clear hK K
            try simp only [Act.put, List.getElem_toArray, List.getElem_cons_succ, List.getElem_cons_zero, List.setIfInBounds_toArray, List.set_cons_zero, List.set_cons_succ]
            refine hd_take (i := 8) (v := ?_) rfl (by kernel_rfl) (by kernel_rfl) (by kernel_rfl) (by kernel_rfl) (fun _ _ _ h => h) (by assumption) (Or.inl ⟨by rfl, ?_⟩) ?_
            rotate_left
            · (intro w hSw; (try dsimp only at hSw); go_simp; first | done | with_reducible rfl)
            try simp only [Act.put, List.getElem_toArray, List.getElem_cons_succ, List.getElem_cons_zero, List.setIfInBounds_toArray, List.set_cons_zero, List.set_cons_succ]
            refine hd_take (i := 9) (v := ?_) rfl (by kernel_rfl) (by kernel_rfl) (by kernel_rfl) (by kernel_rfl) (fun _ _ _ h => h) (by assumption) (Or.inl ⟨by rfl, ?_⟩) ?_
            rotate_left
            · (intro w hSw; (try dsimp only at hSw); go_simp; first | done | with_reducible rfl)
            try simp only [Act.put, List.getElem_toArray, List.getElem_cons_succ, List.getElem_cons_zero, List.setIfInBounds_toArray, List.set_cons_zero, List.set_cons_succ]
            refine hd_take (i := 10) (v := ?_) rfl (by kernel_rfl) (by kernel_rfl) (by kernel_rfl) (by kernel_rfl) (fun _ _ _ h => h) (by assumption) (Or.inl ⟨by rfl, ?_⟩) ?_
            rotate_left
            · (intro w hSw; (try dsimp only at hSw); go_simp; first | done | with_reducible rfl)
            try simp only [Act.put, List.getElem_toArray, List.getElem_cons_succ, List.getElem_cons_zero, List.setIfInBounds_toArray, List.set_cons_zero, List.set_cons_succ]
            refine hd_one (i := 11) rfl (by kernel_rfl) (by kernel_rfl) (fun K hK => ?_)
            go_simp
            obtain ⟨wk5, hwa⟩ : ∃ W, W = wk4.alloc (.cells #[.slice none 0 0, .slice none 0 0, .slice none 0 0] 41) := ⟨_, rfl⟩
            rw [← hwa]
            have hba : Fresh wk4 wk5 := by rw [hwa]; exact fnew (frefl _) _
            have ra : RowAt wk5 wk4.heap.size 41 [.slice none 0 0, .slice none 0 0, .slice none 0 0] := by rw [hwa]; exact RowAt.new _ _ _
            have hga : w2.heap.size ≤ wk4.heap.size := fk4.size
            have fk5 := fstep fk4 hba
            clear hwa
            refine hK.out _ _ ?_ (fun hHeld => ?_)
            · exact ⟨fkeep fk5 a0_0, fkeep fk5 a0_1, fkeep fk5 a0_2, fkeep fk5 a2_0, fkeep fk5 a2_1, fkeep fk5 a3_0, fkeep fk5 a3_1⟩
            clear hK K
            try simp only [Act.put, List.getElem_toArray, List.getElem_cons_succ, List.getElem_cons_zero, List.setIfInBounds_toArray, List.set_cons_zero, List.set_cons_succ]
            have rb := ra
            have z0 := rb.cell (i := 0) rfl
            have z1 := rb.cell (i := 1) rfl
            have z2 := rb.cell (i := 2) rfl
            have u0 := rb.frozen 0
            have u1 := rb.frozen 1
            have u2 := rb.frozen 2
            have fs := (fset (fset (fset fk5 hga (o := 0) (.slice qW mW cW)) hga (o := 1) (.slice fW kW dW)) hga (o := 2) (.slice tW iW eW))
            refine hd_one (i := 12) rfl (by kernel_rfl) (by kernel_rfl) (fun K hK => ?_)
            (go_simp)
            refine hK.out _ _ ?_ (fun hHeld => ?_)
            · exact ⟨fkeep fs a0_0, fkeep fs a0_1, fkeep fs a0_2, fkeep fs a2_0, fkeep fs a2_1, fkeep fs a3_0, fkeep fs a3_1⟩
            clear hK K
            try simp only [Act.put, List.getElem_toArray, List.getElem_cons_succ, List.getElem_cons_zero, List.setIfInBounds_toArray, List.set_cons_zero, List.set_cons_succ]
            refine hd_done (by kernel_rfl) ?_
            clear hHeld
            simp only [List.drop_succ_cons, List.drop_zero]
            go_wp2_with fail
            go_meet
            have hrow := (((rb.set 0 (.slice qW mW cW)).set 1 (.slice fW kW dW)).set 2 (.slice tW iW eW))
            exact ⟨_, _, _, _, _, _, _, _, _, _, rfl, rfl, hrow, ((how.keep hba).box rb).held.wide (Nat.zero_le _) (Nat.le_refl _), fs, hga⟩
          · refine hd_cons (i := 11) rfl (by kernel_rfl) (fun K hK => ?_) hd_nil
            go_simp
            obtain ⟨wk6, hwa⟩ : ∃ W, W = wk3.alloc (.cells #[.slice none 0 0, .slice none 0 0, .slice none 0 0] 41) := ⟨_, rfl⟩
            rw [← hwa]
            have hba : Fresh wk3 wk6 := by rw [hwa]; exact fnew (frefl _) _
            have ra : RowAt wk6 wk3.heap.size 41 [.slice none 0 0, .slice none 0 0, .slice none 0 0] := by rw [hwa]; exact RowAt.new _ _ _
            have hga : w2.heap.size ≤ wk3.heap.size := fk3.size
            have fk6 := fstep fk3 hba
            clear hwa
            refine hK.out _ _ ?_ (fun hHeld => ?_)
            · exact ⟨fkeep fk6 a0_0, fkeep fk6 a0_1, fkeep fk6 a0_2, fkeep fk6 a2_0, fkeep fk6 a2_1, fkeep fk6 a3_0, fkeep fk6 a3_1⟩
            clear hK K
            try simp only [Act.put, List.getElem_toArray, List.getElem_cons_succ, List.getElem_cons_zero, List.setIfInBounds_toArray, List.set_cons_zero, List.set_cons_succ]
            refine hd_one (i := 7) rfl (by kernel_rfl) (by kernel_rfl) (fun K hK => ?_)
            go_simp
            go_at_call 8
            have hcc := specMoveLight_l _ x0 x1 _ x2 (f3a, n3a) _ (((hy0.keep hb2).keep hb3).keep hba) ((hy2.keep hb3).keep hba)
            rw [← HR0.out, ← HR1.out] at hcc
            refine hcc.mono ?_
            clear hcc
            rintro e wk7 ⟨vW, rfl, how, hbr⟩
            obtain ⟨qW, mW, cW, fW, kW, dW, tW, iW, eW, hvv⟩ := how.shape
            subst hvv
            have fk7 := fstep fk6 hbr
            go_wp2_with fail
            refine hK.out _ _ ?_ (fun hHeld => ?_)
            · exact ⟨fkeep fk7 a0_0, fkeep fk7 a0_1, fkeep fk7 a0_2, fkeep fk7 a2_0, fkeep fk7 a2_1, fkeep fk7 a3_0, fkeep fk7 a3_1⟩
            clear hK K
            try simp only [Act.put, List.getElem_toArray, List.getElem_cons_succ, List.getElem_cons_zero, List.setIfInBounds_toArray, List.set_cons_zero, List.set_cons_succ]
            refine hd_take (i := 8) (v := ?_) rfl (by kernel_rfl) (by kernel_rfl) (by kernel_rfl) (by kernel_rfl) (fun _ _ _ h => h) (by assumption) (Or.inl ⟨by rfl, ?_⟩) ?_
            rotate_left
            · (intro w hSw; (try dsimp only at hSw); go_simp; first | done | with_reducible rfl)
            try simp only [Act.put, List.getElem_toArray, List.getElem_cons_succ, List.getElem_cons_zero, List.setIfInBounds_toArray, List.set_cons_zero, List.set_cons_succ]
            refine hd_take (i := 9) (v := ?_) rfl (by kernel_rfl) (by kernel_rfl) (by kernel_rfl) (by kernel_rfl) (fun _ _ _ h => h) (by assumption) (Or.inl ⟨by rfl, ?_⟩) ?_
            rotate_left
            · (intro w hSw; (try dsimp only at hSw); go_simp; first | done | with_reducible rfl)
            try simp only [Act.put, List.getElem_toArray, List.getElem_cons_succ, List.getElem_cons_zero, List.setIfInBounds_toArray, List.set_cons_zero, List.set_cons_succ]
            refine hd_take (i := 10) (v := ?_) rfl (by kernel_rfl) (by kernel_rfl) (by kernel_rfl) (by kernel_rfl) (fun _ _ _ h => h) (by assumption) (Or.inl ⟨by rfl, ?_⟩) ?_
            rotate_left
            · (intro w hSw; (try dsimp only at hSw); go_simp; first | done | with_reducible rfl)
            try simp only [Act.put, List.getElem_toArray, List.getElem_cons_succ, List.getElem_cons_zero, List.setIfInBounds_toArray, List.set_cons_zero, List.set_cons_succ]
            have rb := (ra.keep hbr)
            have z0 := rb.cell (i := 0) rfl
            have z1 := rb.cell (i := 1) rfl
            have z2 := rb.cell (i := 2) rfl
            have u0 := rb.frozen 0
            have u1 := rb.frozen 1
            have u2 := rb.frozen 2
            have fs := (fset (fset (fset fk7 hga (o := 0) (.slice qW mW cW)) hga (o := 1) (.slice fW kW dW)) hga (o := 2) (.slice tW iW eW))
            refine hd_one (i := 12) rfl (by kernel_rfl) (by kernel_rfl) (fun K hK => ?_)
            (go_simp)
            refine hK.out _ _ ?_ (fun hHeld => ?_)
            · exact ⟨fkeep fs a0_0, fkeep fs a0_1, fkeep fs a0_2, fkeep fs a2_0, fkeep fs a2_1, fkeep fs a3_0, fkeep fs a3_1⟩
            clear hK K
            try simp only [Act.put, List.getElem_toArray, List.getElem_cons_succ, List.getElem_cons_zero, List.setIfInBounds_toArray, List.set_cons_zero, List.set_cons_succ]
            refine hd_done (by kernel_rfl) ?_
            clear hHeld
            simp only [List.drop_succ_cons, List.drop_zero]
            go_wp2_with fail
            go_meet
            have hrow := (((rb.set 0 (.slice qW mW cW)).set 1 (.slice fW kW dW)).set 2 (.slice tW iW eW))
            exact ⟨_, _, _, _, _, _, _, _, _, _, rfl, rfl, hrow, (how.box rb).held.wide (Nat.zero_le _) (Nat.le_refl _), fs, hga⟩
        · refine hd_cons (i := 11) rfl (by kernel_rfl) (fun K hK => ?_) hd_nil
          go_simp
          obtain ⟨wk8, hwa⟩ : ∃ W, W = wk2.alloc (.cells #[.slice none 0 0, .slice none 0 0, .slice none 0 0] 41) := ⟨_, rfl⟩
          rw [← hwa]
          have hba : Fresh wk2 wk8 := by rw [hwa]; exact fnew (frefl _) _
          have ra : RowAt wk8 wk2.heap.size 41 [.slice none 0 0, .slice none 0 0, .slice none 0 0] := by rw [hwa]; exact RowAt.new _ _ _
          have hga : w2.heap.size ≤ wk2.heap.size := fk2.size
          have fk8 := fstep fk2 hba
          clear hwa
          refine hK.out _ _ ?_ (fun hHeld => ?_)
          · exact ⟨fkeep fk8 a0_0, fkeep fk8 a0_1, fkeep fk8 a0_2, fkeep fk8 a2_0, fkeep fk8 a2_1, fkeep fk8 a3_0, fkeep fk8 a3_1⟩
          clear hK K
          try simp only [Act.put, List.getElem_toArray, List.getElem_cons_succ, List.getElem_cons_zero, List.setIfInBounds_toArray, List.set_cons_zero, List.set_cons_succ]
          refine hd_one (i := 6) rfl (by kernel_rfl) (by kernel_rfl) (fun K hK => ?_)
          go_simp
          go_at_call 11
          refine (toBlock_any f3a n3a _).mono ?_
          rintro e wk9 ⟨rfl, hb3⟩
          have fk9 := fstep fk8 hb3
          go_wp2_with fail
          refine hK.out _ _ ?_ (fun hHeld => ?_)
          · exact ⟨fkeep fk9 a0_0, fkeep fk9 a0_1, fkeep fk9 a0_2, fkeep fk9 a2_0, fkeep fk9 a2_1, fkeep fk9 a3_0, fkeep fk9 a3_1⟩
          clear hK K
          try simp only [Act.put, List.getElem_toArray, List.getElem_cons_succ, List.getElem_cons_zero, List.setIfInBounds_toArray, List.set_cons_zero, List.set_cons_succ]
          refine hd_one (i := 7) rfl (by kernel_rfl) (by kernel_rfl) (fun K hK => ?_)
          go_simp
          go_at_call 8
          have hcc := specMoveLight_l _ x0 x1 _ x2 (f3a, n3a) _ (((hy0.keep hb2).keep hba).keep hb3) ((hy2.keep hba).keep hb3)
          rw [← HR0.out, ← HR1.out] at hcc
          refine hcc.mono ?_
          clear hcc
          rintro e wk10 ⟨vW, rfl, how, hbr⟩
          obtain ⟨qW, mW, cW, fW, kW, dW, tW, iW, eW, hvv⟩ := how.shape
          subst hvv
          have fk10 := fstep fk9 hbr
          go_wp2_with fail
          refine hK.out _ _ ?_ (fun hHeld => ?_)
          · exact ⟨fkeep fk10 a0_0, fkeep fk10 a0_1, fkeep fk10 a0_2, fkeep fk10 a2_0, fkeep fk10 a2_1, fkeep fk10 a3_0, fkeep fk10 a3_1⟩
          clear hK K
          try simp only [Act.put, List.getElem_toArray, List.getElem_cons_succ, List.getElem_cons_zero, List.setIfInBounds_toArray, List.set_cons_zero, List.set_cons_succ]
          refine hd_take (i := 8) (v := ?_) rfl (by kernel_rfl) (by kernel_rfl) (by kernel_rfl) (by kernel_rfl) (fun _ _ _ h => h) (by assumption) (Or.inl ⟨by rfl, ?_⟩) ?_
          rotate_left
          · (intro w hSw; (try dsimp only at hSw); go_simp; first | done | with_reducible rfl)
          try simp only [Act.put, List.getElem_toArray, List.getElem_cons_succ, List.getElem_cons_zero, List.setIfInBounds_toArray, List.set_cons_zero, List.set_cons_succ]
          refine hd_take (i := 9) (v := ?_) rfl (by kernel_rfl) (by kernel_rfl) (by kernel_rfl) (by kernel_rfl) (fun _ _ _ h => h) (by assumption) (Or.inl ⟨by rfl, ?_⟩) ?_
          rotate_left
          · (intro w hSw; (try dsimp only at hSw); go_simp; first | done | with_reducible rfl)
          try simp only [Act.put, List.getElem_toArray, List.getElem_cons_succ, List.getElem_cons_zero, List.setIfInBounds_toArray, List.set_cons_zero, List.set_cons_succ]
          refine hd_take (i := 10) (v := ?_) rfl (by kernel_rfl) (by kernel_rfl) (by kernel_rfl) (by kernel_rfl) (fun _ _ _ h => h) (by assumption) (Or.inl ⟨by rfl, ?_⟩) ?_
          rotate_left
          · (intro w hSw; (try dsimp only at hSw); go_simp; first | done | with_reducible rfl)
          try simp only [Act.put, List.getElem_toArray, List.getElem_cons_succ, List.getElem_cons_zero, List.setIfInBounds_toArray, List.set_cons_zero, List.set_cons_succ]
          have rb := ((ra.keep hb3).keep hbr)
          have z0 := rb.cell (i := 0) rfl
          have z1 := rb.cell (i := 1) rfl
          have z2 := rb.cell (i := 2) rfl
          have u0 := rb.frozen 0
          have u1 := rb.frozen 1
          have u2 := rb.frozen 2
          have fs := (fset (fset (fset fk10 hga (o := 0) (.slice qW mW cW)) hga (o := 1) (.slice fW kW dW)) hga (o := 2) (.slice tW iW eW))
          refine hd_one (i := 12) rfl (by kernel_rfl) (by kernel_rfl) (fun K hK => ?_)
          (go_simp)
          refine hK.out _ _ ?_ (fun hHeld => ?_)
          · exact ⟨fkeep fs a0_0, fkeep fs a0_1, fkeep fs a0_2, fkeep fs a2_0, fkeep fs a2_1, fkeep fs a3_0, fkeep fs a3_1⟩
          clear hK K
          try simp only [Act.put, List.getElem_toArray, List.getElem_cons_succ, List.getElem_cons_zero, List.setIfInBounds_toArray, List.set_cons_zero, List.set_cons_succ]
          refine hd_done (by kernel_rfl) ?_
          clear hHeld
          simp only [List.drop_succ_cons, List.drop_zero]
          go_wp2_with fail
          go_meet
          have hrow := (((rb.set 0 (.slice qW mW cW)).set 1 (.slice fW kW dW)).set 2 (.slice tW iW eW))
          exact ⟨_, _, _, _, _, _, _, _, _, _, rfl, rfl, hrow, (how.box rb).held.wide (Nat.zero_le _) (Nat.le_refl _), fs, hga⟩
      · refine hd_cons (i := 11) rfl (by kernel_rfl) (fun K hK => ?_) hd_nil
        go_simp
        obtain ⟨wk11, hwa⟩ : ∃ W, W = wk1.alloc (.cells #[.slice none 0 0, .slice none 0 0, .slice none 0 0] 41) := ⟨_, rfl⟩
        rw [← hwa]
        have hba : Fresh wk1 wk11 := by rw [hwa]; exact fnew (frefl _) _
        have ra : RowAt wk11 wk1.heap.size 41 [.slice none 0 0, .slice none 0 0, .slice none 0 0] := by rw [hwa]; exact RowAt.new _ _ _
        have hga : w2.heap.size ≤ wk1.heap.size := fk1.size
        have fk11 := fstep fk1 hba
        clear hwa
        refine hK.out _ _ ?_ (fun hHeld => ?_)
        · exact ⟨fkeep fk11 a0_0, fkeep fk11 a0_1, fkeep fk11 a0_2, fkeep fk11 a2_0, fkeep fk11 a2_1, fkeep fk11 a3_0, fkeep fk11 a3_1⟩
        clear hK K
        try simp only [Act.put, List.getElem_toArray, List.getElem_cons_succ, List.getElem_cons_zero, List.setIfInBounds_toArray, List.set_cons_zero, List.set_cons_succ]
        refine hd_one (i := 4) rfl (by kernel_rfl) (by kernel_rfl) (fun K hK => ?_)
        go_simp
        go_at_call 10
        refine (toRoute_k _ x2 _ (HI2.out.keep (fstep HF.out fk11))).mono ?_
        rintro e wk12 ⟨y2, rfl, hy2, hb2⟩
        have fk12 := fstep fk11 hb2
        go_wp2_with fail
        refine hK.out _ _ ?_ (fun hHeld => ?_)
        · exact ⟨fkeep fk12 a0_0, fkeep fk12 a0_1, fkeep fk12 a0_2, fkeep fk12 a2_0, fkeep fk12 a2_1, fkeep fk12 a3_0, fkeep fk12 a3_1⟩
        clear hK K
        try simp only [Act.put, List.getElem_toArray, List.getElem_cons_succ, List.getElem_cons_zero, List.setIfInBounds_toArray, List.set_cons_zero, List.set_cons_succ]
        refine hd_one (i := 6) rfl (by kernel_rfl) (by kernel_rfl) (fun K hK => ?_)
        go_simp
        go_at_call 11
        refine (toBlock_any f3a n3a _).mono ?_
        rintro e wk13 ⟨rfl, hb3⟩
        have fk13 := fstep fk12 hb3
        go_wp2_with fail
        refine hK.out _ _ ?_ (fun hHeld => ?_)
        · exact ⟨fkeep fk13 a0_0, fkeep fk13 a0_1, fkeep fk13 a0_2, fkeep fk13 a2_0, fkeep fk13 a2_1, fkeep fk13 a3_0, fkeep fk13 a3_1⟩
        clear hK K
        try simp only [Act.put, List.getElem_toArray, List.getElem_cons_succ, List.getElem_cons_zero, List.setIfInBounds_toArray, List.set_cons_zero, List.set_cons_succ]
        refine hd_one (i := 7) rfl (by kernel_rfl) (by kernel_rfl) (fun K hK => ?_)
        go_simp
        go_at_call 8
        have hcc := specMoveLight_l _ x0 x1 _ x2 (f3a, n3a) _ (((hy0.keep hba).keep hb2).keep hb3) (hy2.keep hb3)
        rw [← HR0.out, ← HR1.out] at hcc
        refine hcc.mono ?_
        clear hcc
        rintro e wk14 ⟨vW, rfl, how, hbr⟩
        obtain ⟨qW, mW, cW, fW, kW, dW, tW, iW, eW, hvv⟩ := how.shape
        subst hvv
        have fk14 := fstep fk13 hbr
        go_wp2_with fail
        refine hK.out _ _ ?_ (fun hHeld => ?_)
        · exact ⟨fkeep fk14 a0_0, fkeep fk14 a0_1, fkeep fk14 a0_2, fkeep fk14 a2_0, fkeep fk14 a2_1, fkeep fk14 a3_0, fkeep fk14 a3_1⟩
        clear hK K
        try simp only [Act.put, List.getElem_toArray, List.getElem_cons_succ, List.getElem_cons_zero, List.setIfInBounds_toArray, List.set_cons_zero, List.set_cons_succ]
        refine hd_take (i := 8) (v := ?_) rfl (by kernel_rfl) (by kernel_rfl) (by kernel_rfl) (by kernel_rfl) (fun _ _ _ h => h) (by assumption) (Or.inl ⟨by rfl, ?_⟩) ?_
        rotate_left
        · (intro w hSw; (try dsimp only at hSw); go_simp; first | done | with_reducible rfl)
        try simp only [Act.put, List.getElem_toArray, List.getElem_cons_succ, List.getElem_cons_zero, List.setIfInBounds_toArray, List.set_cons_zero, List.set_cons_succ]
        refine hd_take (i := 9) (v := ?_) rfl (by kernel_rfl) (by kernel_rfl) (by kernel_rfl) (by kernel_rfl) (fun _ _ _ h => h) (by assumption) (Or.inl ⟨by rfl, ?_⟩) ?_
        rotate_left
        · (intro w hSw; (try dsimp only at hSw); go_simp; first | done | with_reducible rfl)
        try simp only [Act.put, List.getElem_toArray, List.getElem_cons_succ, List.getElem_cons_zero, List.setIfInBounds_toArray, List.set_cons_zero, List.set_cons_succ]
        refine hd_take (i := 10) (v := ?_) rfl (by kernel_rfl) (by kernel_rfl) (by kernel_rfl) (by kernel_rfl) (fun _ _ _ h => h) (by assumption) (Or.inl ⟨by rfl, ?_⟩) ?_
        rotate_left
        · (intro w hSw; (try dsimp only at hSw); go_simp; first | done | with_reducible rfl)
        try simp only [Act.put, List.getElem_toArray, List.getElem_cons_succ, List.getElem_cons_zero, List.setIfInBounds_toArray, List.set_cons_zero, List.set_cons_succ]
        have rb := (((ra.keep hb2).keep hb3).keep hbr)
        have z0 := rb.cell (i := 0) rfl
        have z1 := rb.cell (i := 1) rfl
        have z2 := rb.cell (i := 2) rfl
        have u0 := rb.frozen 0
        have u1 := rb.frozen 1
        have u2 := rb.frozen 2
        have fs := (fset (fset (fset fk14 hga (o := 0) (.slice qW mW cW)) hga (o := 1) (.slice fW kW dW)) hga (o := 2) (.slice tW iW eW))
        refine hd_one (i := 12) rfl (by kernel_rfl) (by kernel_rfl) (fun K hK => ?_)
        (go_simp)
        refine hK.out _ _ ?_ (fun hHeld => ?_)
        · exact ⟨fkeep fs a0_0, fkeep fs a0_1, fkeep fs a0_2, fkeep fs a2_0, fkeep fs a2_1, fkeep fs a3_0, fkeep fs a3_1⟩
        clear hK K
        try simp only [Act.put, List.getElem_toArray, List.getElem_cons_succ, List.getElem_cons_zero, List.setIfInBounds_toArray, List.set_cons_zero, List.set_cons_succ]
        refine hd_done (by kernel_rfl) ?_
        clear hHeld
        simp only [List.drop_succ_cons, List.drop_zero]
        go_wp2_with fail
        go_meet
        have hrow := (((rb.set 0 (.slice qW mW cW)).set 1 (.slice fW kW dW)).set 2 (.slice tW iW eW))
        exact ⟨_, _, _, _, _, _, _, _, _, _, rfl, rfl, hrow, (how.box rb).held.wide (Nat.zero_le _) (Nat.le_refl _), fs, hga⟩
    · refine hd_cons (i := 11) rfl (by kernel_rfl) (fun K hK => ?_) hd_nil
      go_simp
      obtain ⟨wk15, hwa⟩ : ∃ W, W = Wz.alloc (.cells #[.slice none 0 0, .slice none 0 0, .slice none 0 0] 41) := ⟨_, rfl⟩
      rw [← hwa]
      have hba : Fresh Wz wk15 := by rw [hwa]; exact fnew (frefl _) _
      have ra : RowAt wk15 Wz.heap.size 41 [.slice none 0 0, .slice none 0 0, .slice none 0 0] := by rw [hwa]; exact RowAt.new _ _ _
      have hga : w2.heap.size ≤ Wz.heap.size := f0.size
      have fk15 := fstep f0 hba
      clear hwa
      refine hK.out _ _ ?_ (fun hHeld => ?_)
      · exact ⟨fkeep fk15 a0_0, fkeep fk15 a0_1, fkeep fk15 a0_2, fkeep fk15 a2_0, fkeep fk15 a2_1, fkeep fk15 a3_0, fkeep fk15 a3_1⟩
      clear hK K
      try simp only [Act.put, List.getElem_toArray, List.getElem_cons_succ, List.getElem_cons_zero, List.setIfInBounds_toArray, List.set_cons_zero, List.set_cons_succ]
      refine hd_one (i := 1) rfl (by kernel_rfl) (by kernel_rfl) (fun K hK => ?_)
      go_simp
      go_at_call 9
      refine (toPlan_k _ x0 _ (HI0.out.keep (fstep HF.out fk15))).mono ?_
      rintro e wk16 ⟨y0, rfl, hy0, hb0⟩
      have fk16 := fstep fk15 hb0
      go_wp2_with fail
      refine hK.out _ _ ?_ (fun hHeld => ?_)
      · exact ⟨fkeep fk16 a0_0, fkeep fk16 a0_1, fkeep fk16 a0_2, fkeep fk16 a2_0, fkeep fk16 a2_1, fkeep fk16 a3_0, fkeep fk16 a3_1⟩
      clear hK K
      try simp only [Act.put, List.getElem_toArray, List.getElem_cons_succ, List.getElem_cons_zero, List.setIfInBounds_toArray, List.set_cons_zero, List.set_cons_succ]
      refine hd_one (i := 4) rfl (by kernel_rfl) (by kernel_rfl) (fun K hK => ?_)
      go_simp
      go_at_call 10
      refine (toRoute_k _ x2 _ (HI2.out.keep (fstep HF.out fk16))).mono ?_
      rintro e wk17 ⟨y2, rfl, hy2, hb2⟩
      have fk17 := fstep fk16 hb2
      go_wp2_with fail
      refine hK.out _ _ ?_ (fun hHeld => ?_)
      · exact ⟨fkeep fk17 a0_0, fkeep fk17 a0_1, fkeep fk17 a0_2, fkeep fk17 a2_0, fkeep fk17 a2_1, fkeep fk17 a3_0, fkeep fk17 a3_1⟩
      clear hK K
      try simp only [Act.put, List.getElem_toArray, List.getElem_cons_succ, List.getElem_cons_zero, List.setIfInBounds_toArray, List.set_cons_zero, List.set_cons_succ]
      refine hd_one (i := 6) rfl (by kernel_rfl) (by kernel_rfl) (fun K hK => ?_)
      go_simp
      go_at_call 11
      refine (toBlock_any f3a n3a _).mono ?_
      rintro e wk18 ⟨rfl, hb3⟩
      have fk18 := fstep fk17 hb3
      go_wp2_with fail
      refine hK.out _ _ ?_ (fun hHeld => ?_)
      · exact ⟨fkeep fk18 a0_0, fkeep fk18 a0_1, fkeep fk18 a0_2, fkeep fk18 a2_0, fkeep fk18 a2_1, fkeep fk18 a3_0, fkeep fk18 a3_1⟩
      clear hK K
      try simp only [Act.put, List.getElem_toArray, List.getElem_cons_succ, List.getElem_cons_zero, List.setIfInBounds_toArray, List.set_cons_zero, List.set_cons_succ]
      refine hd_one (i := 7) rfl (by kernel_rfl) (by kernel_rfl) (fun K hK => ?_)
      go_simp
      go_at_call 8
      have hcc := specMoveLight_l _ x0 x1 _ x2 (f3a, n3a) _ ((hy0.keep hb2).keep hb3) (hy2.keep hb3)
      rw [← HR0.out, ← HR1.out] at hcc
      refine hcc.mono ?_
      clear hcc
      rintro e wk19 ⟨vW, rfl, how, hbr⟩
      obtain ⟨qW, mW, cW, fW, kW, dW, tW, iW, eW, hvv⟩ := how.shape
      subst hvv
      have fk19 := fstep fk18 hbr
      go_wp2_with fail
      refine hK.out _ _ ?_ (fun hHeld => ?_)
      · exact ⟨fkeep fk19 a0_0, fkeep fk19 a0_1, fkeep fk19 a0_2, fkeep fk19 a2_0, fkeep fk19 a2_1, fkeep fk19 a3_0, fkeep fk19 a3_1⟩
      clear hK K
      try simp only [Act.put, List.getElem_toArray, List.getElem_cons_succ, List.getElem_cons_zero, List.setIfInBounds_toArray, List.set_cons_zero, List.set_cons_succ]
      refine hd_take (i := 8) (v := ?_) rfl (by kernel_rfl) (by kernel_rfl) (by kernel_rfl) (by kernel_rfl) (fun _ _ _ h => h) (by assumption) (Or.inl ⟨by rfl, ?_⟩) ?_
      rotate_left
      · (intro w hSw; (try dsimp only at hSw); go_simp; first | done | with_reducible rfl)
      try simp only [Act.put, List.getElem_toArray, List.getElem_cons_succ, List.getElem_cons_zero, List.setIfInBounds_toArray, List.set_cons_zero, List.set_cons_succ]
      refine hd_take (i := 9) (v := ?_) rfl (by kernel_rfl) (by kernel_rfl) (by kernel_rfl) (by kernel_rfl) (fun _ _ _ h => h) (by assumption) (Or.inl ⟨by rfl, ?_⟩) ?_
      rotate_left
      · (intro w hSw; (try dsimp only at hSw); go_simp; first | done | with_reducible rfl)
      try simp only [Act.put, List.getElem_toArray, List.getElem_cons_succ, List.getElem_cons_zero, List.setIfInBounds_toArray, List.set_cons_zero, List.set_cons_succ]
      refine hd_take (i := 10) (v := ?_) rfl (by kernel_rfl) (by kernel_rfl) (by kernel_rfl) (by kernel_rfl) (fun _ _ _ h => h) (by assumption) (Or.inl ⟨by rfl, ?_⟩) ?_
      rotate_left
      · (intro w hSw; (try dsimp only at hSw); go_simp; first | done | with_reducible rfl)
      try simp only [Act.put, List.getElem_toArray, List.getElem_cons_succ, List.getElem_cons_zero, List.setIfInBounds_toArray, List.set_cons_zero, List.set_cons_succ]
      have rb := ((((ra.keep hb0).keep hb2).keep hb3).keep hbr)
      have z0 := rb.cell (i := 0) rfl
      have z1 := rb.cell (i := 1) rfl
      have z2 := rb.cell (i := 2) rfl
      have u0 := rb.frozen 0
      have u1 := rb.frozen 1
      have u2 := rb.frozen 2
      have fs := (fset (fset (fset fk19 hga (o := 0) (.slice qW mW cW)) hga (o := 1) (.slice fW kW dW)) hga (o := 2) (.slice tW iW eW))
      refine hd_one (i := 12) rfl (by kernel_rfl) (by kernel_rfl) (fun K hK => ?_)
      (go_simp)
      refine hK.out _ _ ?_ (fun hHeld => ?_)
      · exact ⟨fkeep fs a0_0, fkeep fs a0_1, fkeep fs a0_2, fkeep fs a2_0, fkeep fs a2_1, fkeep fs a3_0, fkeep fs a3_1⟩
      clear hK K
      try simp only [Act.put, List.getElem_toArray, List.getElem_cons_succ, List.getElem_cons_zero, List.setIfInBounds_toArray, List.set_cons_zero, List.set_cons_succ]
      refine hd_done (by kernel_rfl) ?_
      clear hHeld
      simp only [List.drop_succ_cons, List.drop_zero]
      go_wp2_with fail
      go_meet
      have hrow := (((rb.set 0 (.slice qW mW cW)).set 1 (.slice fW kW dW)).set 2 (.slice tW iW eW))
      exact ⟨_, _, _, _, _, _, _, _, _, _, rfl, rfl, hrow, (how.box rb).held.wide (Nat.zero_le _) (Nat.le_refl _), fs, hga⟩
  case rest =>
    obtain ⟨gbW, qW, mW, cW, fW, kW, dW, tW, iW, eW, rfl, rfl, hrowW, howW, hb, hgbW⟩ := hcut
    have HRW := Lib.hid howW
    have bW_0 := hrowW.cell (i := 0) rfl
    have bW_1 := hrowW.cell (i := 1) rfl
    have bW_2 := hrowW.cell (i := 2) rfl
    have HSZ2 := Lib.hid (show gbW < wc.heap.size from hrowW.lt)
    have HSZ3 := Lib.hid hgbW
    obtain ⟨wcW, hwc⟩ : ∃ W, W = wc := ⟨_, rfl⟩
    subst hwc
    clear hrowW howW hgbW
    have HSZ4 := Lib.hid (hb.size)
    replace a0_0 := fkeep hb a0_0
    replace a0_1 := fkeep hb a0_1
    replace a0_2 := fkeep hb a0_2
    replace a2_0 := fkeep hb a2_0
    replace a2_1 := fkeep hb a2_1
    replace a3_0 := fkeep hb a3_0
    replace a3_1 := fkeep hb a3_1
    have HF := Lib.hid (fstep HF.out hb)
    clear hb
    go_wp2_with fail
    refine (toPlan_o _ x0 _ (HI0.out.keep HF.out)).mono ?_
    rintro e w3 ⟨z0, rfl, hy, hm, hb⟩
    have HZ0 := Lib.hid hy
    have HM0 := Lib.hid hm
    clear hy hm
    have HSZ5 := Lib.hid (hb.size)
    replace a0_0 := fkeep hb a0_0
    replace a0_1 := fkeep hb a0_1
    replace a0_2 := fkeep hb a0_2
    replace a2_0 := fkeep hb a2_0
    replace a2_1 := fkeep hb a2_1
    replace a3_0 := fkeep hb a3_0
    replace a3_1 := fkeep hb a3_1
    replace bW_0 := fkeep hb bW_0
    replace bW_1 := fkeep hb bW_1
    replace bW_2 := fkeep hb bW_2
    have HF := Lib.hid (fstep HF.out hb)
    replace HRW := Lib.hid (HRW.out.keep hb)
    clear hb
    obtain ⟨q0x, m0x, c0x, p0x, k0x, d0x, r0x, i0x, e0x, hv⟩ := HZ0.out.shape
    subst hv
    obtain ⟨Xx0, hX⟩ : ∃ X, X = w3.alloc (.cells #[.slice q0x m0x c0x, .slice p0x k0x d0x, .slice r0x i0x e0x] 41) := ⟨_, rfl⟩
    have hb : Fresh w3 Xx0 := by rw [hX]; exact fnew (frefl _) _
    have HSZ6 := Lib.hid (show Xx0.heap.size = w3.heap.size + 1 by rw [hX]; simp)
    have La0_0 := fkeep (fnew (frefl w3) (.cells #[.slice q0x m0x c0x, .slice p0x k0x d0x, .slice r0x i0x e0x] 41)) a0_0
    have La0_1 := fkeep (fnew (frefl w3) (.cells #[.slice q0x m0x c0x, .slice p0x k0x d0x, .slice r0x i0x e0x] 41)) a0_1
    have La0_2 := fkeep (fnew (frefl w3) (.cells #[.slice q0x m0x c0x, .slice p0x k0x d0x, .slice r0x i0x e0x] 41)) a0_2
    have La2_0 := fkeep (fnew (frefl w3) (.cells #[.slice q0x m0x c0x, .slice p0x k0x d0x, .slice r0x i0x e0x] 41)) a2_0
    have La2_1 := fkeep (fnew (frefl w3) (.cells #[.slice q0x m0x c0x, .slice p0x k0x d0x, .slice r0x i0x e0x] 41)) a2_1
    have La3_0 := fkeep (fnew (frefl w3) (.cells #[.slice q0x m0x c0x, .slice p0x k0x d0x, .slice r0x i0x e0x] 41)) a3_0
    have La3_1 := fkeep (fnew (frefl w3) (.cells #[.slice q0x m0x c0x, .slice p0x k0x d0x, .slice r0x i0x e0x] 41)) a3_1
    have LbW_0 := fkeep (fnew (frefl w3) (.cells #[.slice q0x m0x c0x, .slice p0x k0x d0x, .slice r0x i0x e0x] 41)) bW_0
    have LbW_1 := fkeep (fnew (frefl w3) (.cells #[.slice q0x m0x c0x, .slice p0x k0x d0x, .slice r0x i0x e0x] 41)) bW_1
    have LbW_2 := fkeep (fnew (frefl w3) (.cells #[.slice q0x m0x c0x, .slice p0x k0x d0x, .slice r0x i0x e0x] 41)) bW_2
    have c0_0 : Xx0.cell? ⟨w3.heap.size, 0, none⟩ = some (.slice q0x m0x c0x) := by rw [hX]; exact (RowAt.new w3 41 [.slice q0x m0x c0x, .slice p0x k0x d0x, .slice r0x i0x e0x]).cell (i := 0) rfl
    have c0_1 : Xx0.cell? ⟨w3.heap.size, 1, none⟩ = some (.slice p0x k0x d0x) := by rw [hX]; exact (RowAt.new w3 41 [.slice q0x m0x c0x, .slice p0x k0x d0x, .slice r0x i0x e0x]).cell (i := 1) rfl
    have c0_2 : Xx0.cell? ⟨w3.heap.size, 2, none⟩ = some (.slice r0x i0x e0x) := by rw [hX]; exact (RowAt.new w3 41 [.slice q0x m0x c0x, .slice p0x k0x d0x, .slice r0x i0x e0x]).cell (i := 2) rfl
    replace a0_0 := fkeep hb a0_0
    replace a0_1 := fkeep hb a0_1
    replace a0_2 := fkeep hb a0_2
    replace a2_0 := fkeep hb a2_0
    replace a2_1 := fkeep hb a2_1
    replace a3_0 := fkeep hb a3_0
    replace a3_1 := fkeep hb a3_1
    replace bW_0 := fkeep hb bW_0
    replace bW_1 := fkeep hb bW_1
    replace bW_2 := fkeep hb bW_2
    have HF := Lib.hid (fstep HF.out hb)
    replace HRW := Lib.hid (HRW.out.keep hb)
    replace HZ0 := Lib.hid (HZ0.out.keep hb)
    replace HM0 := Lib.hid (HM0.out.keep hb)
    clear hb
    have Ha0_0 := Lib.hid a0_0
    have Ha0_1 := Lib.hid a0_1
    have Ha0_2 := Lib.hid a0_2
    have Ha2_0 := Lib.hid a2_0
    have Ha2_1 := Lib.hid a2_1
    have Ha3_0 := Lib.hid a3_0
    have Ha3_1 := Lib.hid a3_1
    have HbW_0 := Lib.hid bW_0
    have HbW_1 := Lib.hid bW_1
    have HbW_2 := Lib.hid bW_2
    have Hc0_0 := Lib.hid c0_0
    have Hc0_1 := Lib.hid c0_1
    have Hc0_2 := Lib.hid c0_2
    clear a0_0 a0_1 a0_2 a2_0 a2_1 a3_0 a3_1 bW_0 bW_1 bW_2 c0_0 c0_1 c0_2
    have HXx0 := Lib.hid hX
    clear hX
    go_wp2_with fail
    rw [← HXx0.out]
    clear HXx0
    clear La0_0 La0_1 La0_2 La2_0 La2_1 La3_0 La3_1 LbW_0 LbW_1 LbW_2
    have a0_0 := Ha0_0.out
    have a0_1 := Ha0_1.out
    have a0_2 := Ha0_2.out
    have a2_0 := Ha2_0.out
    have a2_1 := Ha2_1.out
    have a3_0 := Ha3_0.out
    have a3_1 := Ha3_1.out
    have bW_0 := HbW_0.out
    have bW_1 := HbW_1.out
    have bW_2 := HbW_2.out
    have c0_0 := Hc0_0.out
    have c0_1 := Hc0_1.out
    have c0_2 := Hc0_2.out
    clear Ha0_0 Ha0_1 Ha0_2 Ha2_0 Ha2_1 Ha3_0 Ha3_1 HbW_0 HbW_1 HbW_2 Hc0_0 Hc0_1 Hc0_2
    go_wp2_with fail
    refine (toRoute_o _ x2 _ (HI2.out.keep HF.out)).mono ?_
    rintro e w4 ⟨z2, rfl, hy, hm, hb⟩
    have HZ2 := Lib.hid hy
    have HM2 := Lib.hid hm
    clear hy hm
    have HSZ7 := Lib.hid (hb.size)
    replace a0_0 := fkeep hb a0_0
    replace a0_1 := fkeep hb a0_1
    replace a0_2 := fkeep hb a0_2
    replace a2_0 := fkeep hb a2_0
    replace a2_1 := fkeep hb a2_1
    replace a3_0 := fkeep hb a3_0
    replace a3_1 := fkeep hb a3_1
    replace bW_0 := fkeep hb bW_0
    replace bW_1 := fkeep hb bW_1
    replace bW_2 := fkeep hb bW_2
    replace c0_0 := fkeep hb c0_0
    replace c0_1 := fkeep hb c0_1
    replace c0_2 := fkeep hb c0_2
    have HF := Lib.hid (fstep HF.out hb)
    replace HRW := Lib.hid (HRW.out.keep hb)
    replace HZ0 := Lib.hid (HZ0.out.keep hb)
    replace HM0 := Lib.hid (HM0.out.keep hb)
    clear hb
    obtain ⟨s2x, q2x, m2x, c2x, hv⟩ := HZ2.out.shape
    subst hv
    obtain ⟨Xx2, hX⟩ : ∃ X, X = w4.alloc (.cells #[.int .i64 s2x, .slice q2x m2x c2x] 45) := ⟨_, rfl⟩
    have hb : Fresh w4 Xx2 := by rw [hX]; exact fnew (frefl _) _
    have HSZ8 := Lib.hid (show Xx2.heap.size = w4.heap.size + 1 by rw [hX]; simp)
    have La0_0 := fkeep (fnew (frefl w4) (.cells #[.int .i64 s2x, .slice q2x m2x c2x] 45)) a0_0
    have La0_1 := fkeep (fnew (frefl w4) (.cells #[.int .i64 s2x, .slice q2x m2x c2x] 45)) a0_1
    have La0_2 := fkeep (fnew (frefl w4) (.cells #[.int .i64 s2x, .slice q2x m2x c2x] 45)) a0_2
    have La2_0 := fkeep (fnew (frefl w4) (.cells #[.int .i64 s2x, .slice q2x m2x c2x] 45)) a2_0
    have La2_1 := fkeep (fnew (frefl w4) (.cells #[.int .i64 s2x, .slice q2x m2x c2x] 45)) a2_1
    have La3_0 := fkeep (fnew (frefl w4) (.cells #[.int .i64 s2x, .slice q2x m2x c2x] 45)) a3_0
    have La3_1 := fkeep (fnew (frefl w4) (.cells #[.int .i64 s2x, .slice q2x m2x c2x] 45)) a3_1
    have LbW_0 := fkeep (fnew (frefl w4) (.cells #[.int .i64 s2x, .slice q2x m2x c2x] 45)) bW_0
    have LbW_1 := fkeep (fnew (frefl w4) (.cells #[.int .i64 s2x, .slice q2x m2x c2x] 45)) bW_1
    have LbW_2 := fkeep (fnew (frefl w4) (.cells #[.int .i64 s2x, .slice q2x m2x c2x] 45)) bW_2
    have Lc0_0 := fkeep (fnew (frefl w4) (.cells #[.int .i64 s2x, .slice q2x m2x c2x] 45)) c0_0
    have Lc0_1 := fkeep (fnew (frefl w4) (.cells #[.int .i64 s2x, .slice q2x m2x c2x] 45)) c0_1
    have Lc0_2 := fkeep (fnew (frefl w4) (.cells #[.int .i64 s2x, .slice q2x m2x c2x] 45)) c0_2
    have c2_0 : Xx2.cell? ⟨w4.heap.size, 0, none⟩ = some (.int .i64 s2x) := by rw [hX]; exact (RowAt.new w4 45 [.int .i64 s2x, .slice q2x m2x c2x]).cell (i := 0) rfl
    have c2_1 : Xx2.cell? ⟨w4.heap.size, 1, none⟩ = some (.slice q2x m2x c2x) := by rw [hX]; exact (RowAt.new w4 45 [.int .i64 s2x, .slice q2x m2x c2x]).cell (i := 1) rfl
    replace a0_0 := fkeep hb a0_0
    replace a0_1 := fkeep hb a0_1
    replace a0_2 := fkeep hb a0_2
    replace a2_0 := fkeep hb a2_0
    replace a2_1 := fkeep hb a2_1
    replace a3_0 := fkeep hb a3_0
    replace a3_1 := fkeep hb a3_1
    replace bW_0 := fkeep hb bW_0
    replace bW_1 := fkeep hb bW_1
    replace bW_2 := fkeep hb bW_2
    replace c0_0 := fkeep hb c0_0
    replace c0_1 := fkeep hb c0_1
    replace c0_2 := fkeep hb c0_2
    have HF := Lib.hid (fstep HF.out hb)
    replace HRW := Lib.hid (HRW.out.keep hb)
    replace HZ0 := Lib.hid (HZ0.out.keep hb)
    replace HM0 := Lib.hid (HM0.out.keep hb)
    replace HZ2 := Lib.hid (HZ2.out.keep hb)
    replace HM2 := Lib.hid (HM2.out.keep hb)
    clear hb
    have Ha0_0 := Lib.hid a0_0
    have Ha0_1 := Lib.hid a0_1
    have Ha0_2 := Lib.hid a0_2
    have Ha2_0 := Lib.hid a2_0
    have Ha2_1 := Lib.hid a2_1
    have Ha3_0 := Lib.hid a3_0
    have Ha3_1 := Lib.hid a3_1
    have HbW_0 := Lib.hid bW_0
    have HbW_1 := Lib.hid bW_1
    have HbW_2 := Lib.hid bW_2
    have Hc0_0 := Lib.hid c0_0
    have Hc0_1 := Lib.hid c0_1
    have Hc0_2 := Lib.hid c0_2
    have Hc2_0 := Lib.hid c2_0
    have Hc2_1 := Lib.hid c2_1
    clear a0_0 a0_1 a0_2 a2_0 a2_1 a3_0 a3_1 bW_0 bW_1 bW_2 c0_0 c0_1 c0_2 c2_0 c2_1
    have HXx2 := Lib.hid hX
    clear hX
    go_wp2_with fail
    rw [← HXx2.out]
    clear HXx2
    clear La0_0 La0_1 La0_2 La2_0 La2_1 La3_0 La3_1 LbW_0 LbW_1 LbW_2 Lc0_0 Lc0_1 Lc0_2
    have a0_0 := Ha0_0.out
    have a0_1 := Ha0_1.out
    have a0_2 := Ha0_2.out
    have a2_0 := Ha2_0.out
    have a2_1 := Ha2_1.out
    have a3_0 := Ha3_0.out
    have a3_1 := Ha3_1.out
    have bW_0 := HbW_0.out
    have bW_1 := HbW_1.out
    have bW_2 := HbW_2.out
    have c0_0 := Hc0_0.out
    have c0_1 := Hc0_1.out
    have c0_2 := Hc0_2.out
    have c2_0 := Hc2_0.out
    have c2_1 := Hc2_1.out
    clear Ha0_0 Ha0_1 Ha0_2 Ha2_0 Ha2_1 Ha3_0 Ha3_1 HbW_0 HbW_1 HbW_2 Hc0_0 Hc0_1 Hc0_2 Hc2_0 Hc2_1
    go_upto_region 11 with fail
    go_cut [14, 15] (fun z14 z15 wx => ∃ (gb : Nat) (qG : Option Addr) (mG : Nat) (cG : Nat) (fG : Option Addr) (kG : Nat) (dG : Nat) (tG : Option Addr) (iG : Nat) (eG : Nat), z14 = .pointer (some ⟨gb, 0, none⟩) ∧ z15 = .bool r1 ∧ RowAt wx gb 41 [.slice qG mG cG, .slice fG kG dG, .slice tG iG eG] ∧ PlHeld wx (Xx2.heap.size) wx.heap.size (.agg #[.slice qG mG cG, .slice fG kG dG, .slice tG iG eG]) r0 ∧ Fresh Xx2 wx ∧ Xx2.heap.size ≤ gb)
    case first =>
      refine hd_start (n := 11) (S := fun wz => wz.cell? ⟨w3.heap.size, 0, none⟩ = some (.slice q0x m0x c0x) ∧ wz.cell? ⟨w3.heap.size, 1, none⟩ = some (.slice p0x k0x d0x) ∧ wz.cell? ⟨w3.heap.size, 2, none⟩ = some (.slice r0x i0x e0x) ∧ wz.cell? ⟨w4.heap.size, 0, none⟩ = some (.int .i64 s2x) ∧ wz.cell? ⟨w4.heap.size, 1, none⟩ = some (.slice q2x m2x c2x) ∧ wz.cell? ⟨w.heap.size + 1 + 1, 0, none⟩ = some (.int .i64 f3a) ∧ wz.cell? ⟨w.heap.size + 1 + 1, 1, none⟩ = some (.int .i64 n3a)) (by kernel_rfl) (by kernel_rfl) ⟨fkeep (fdrew (frefl _)) c0_0, fkeep (fdrew (frefl _)) c0_1, fkeep (fdrew (frefl _)) c0_2, fkeep (fdrew (frefl _)) c2_0, fkeep (fdrew (frefl _)) c2_1, fkeep (fdrew (frefl _)) a3_0, fkeep (fdrew (frefl _)) a3_1⟩ (fun hHeld => ?_)
      obtain ⟨Wz, hWz⟩ : ∃ W, W = Xx2.drew := ⟨_, rfl⟩
      rw [← hWz] at hHeld ⊢
      have f0 : Fresh Xx2 Wz := by rw [hWz]; exact fdrew (frefl _)
      clear hWz
      refine hd_take (i := 0) (v := ?_) rfl (by kernel_rfl) (by kernel_rfl) (by kernel_rfl) (by kernel_rfl) (fun _ _ _ h => h) (by assumption) (Or.inl ⟨by rfl, ?_⟩) ?_
      rotate_left
      · (intro w hSw; (try dsimp only at hSw); go_simp; first | done | with_reducible rfl)
      try simp only [Act.put, List.getElem_toArray, List.getElem_cons_succ, List.getElem_cons_zero, List.setIfInBounds_toArray, List.set_cons_zero, List.set_cons_succ]
      refine hd_take (i := 1) (v := ?_) rfl (by kernel_rfl) (by kernel_rfl) (by kernel_rfl) (by kernel_rfl) (fun _ _ _ h => h) (by assumption) (Or.inl ⟨by rfl, ?_⟩) ?_
      rotate_left
      · (intro w hSw; (try dsimp only at hSw); go_simp; first | done | with_reducible rfl)
      try simp only [Act.put, List.getElem_toArray, List.getElem_cons_succ, List.getElem_cons_zero, List.setIfInBounds_toArray, List.set_cons_zero, List.set_cons_succ]
      refine hd_take (i := 2) (v := ?_) rfl (by kernel_rfl) (by kernel_rfl) (by kernel_rfl) (by kernel_rfl) (fun _ _ _ h => h) (by assumption) (Or.inl ⟨by rfl, ?_⟩) ?_
      rotate_left
      · (intro w hSw; (try dsimp only at hSw); go_simp; first | done | with_reducible rfl)
      try simp only [Act.put, List.getElem_toArray, List.getElem_cons_succ, List.getElem_cons_zero, List.setIfInBounds_toArray, List.set_cons_zero, List.set_cons_succ]
      refine hd_take (i := 3) (v := ?_) rfl (by kernel_rfl) (by kernel_rfl) (by kernel_rfl) (by kernel_rfl) (fun _ _ _ h => h) (by assumption) (Or.inl ⟨by rfl, ?_⟩) ?_
      rotate_left
      · (intro w hSw; (try dsimp only at hSw); go_simp; first | done | with_reducible rfl)
      try simp only [Act.put, List.getElem_toArray, List.getElem_cons_succ, List.getElem_cons_zero, List.setIfInBounds_toArray, List.set_cons_zero, List.set_cons_succ]
      refine hd_ready (rs := [4, 9]) (by kernel_rfl) (by simp) ?_
      refine hd_cons (i := 4) rfl (by kernel_rfl) (fun K hK => ?_) ?_
      · skip
        go_simp
        go_at_call 11
        refine (toBlock_any f3a n3a _).mono ?_
        rintro e wk1 ⟨rfl, hb3⟩
        have fk1 := fstep f0 hb3
        go_wp2_with fail
        refine hK.out _ _ ?_ (fun hHeld => ?_)
        · exact ⟨fkeep fk1 c0_0, fkeep fk1 c0_1, fkeep fk1 c0_2, fkeep fk1 c2_0, fkeep fk1 c2_1, fkeep fk1 a3_0, fkeep fk1 a3_1⟩
        clear hK K
        try simp only [Act.put, List.getElem_toArray, List.getElem_cons_succ, List.getElem_cons_zero, List.setIfInBounds_toArray, List.set_cons_zero, List.set_cons_succ]
        refine hd_ready (rs := [5, 9]) (by kernel_rfl) (by simp) ?_
        refine hd_cons (i := 5) rfl (by kernel_rfl) (fun K hK => ?_) ?_
        · skip
          go_simp
          go_at_call 12
          have hcc := implMoveLight_l _ x0 x1 _ x2 (f3a, n3a) _ (HZ0.out.keep fk1) (HZ2.out.keep fk1)
          rw [← HR0.out, ← HR1.out] at hcc
          refine hcc.mono ?_
          clear hcc
          rintro e wk2 ⟨vG, rfl, how, hbr⟩
          obtain ⟨qG, mG, cG, fG, kG, dG, tG, iG, eG, hvv⟩ := how.shape
          subst hvv
          have fk2 := fstep fk1 hbr
          go_wp2_with fail
          refine hK.out _ _ ?_ (fun hHeld => ?_)
          · exact ⟨fkeep fk2 c0_0, fkeep fk2 c0_1, fkeep fk2 c0_2, fkeep fk2 c2_0, fkeep fk2 c2_1, fkeep fk2 a3_0, fkeep fk2 a3_1⟩
          clear hK K
          try simp only [Act.put, List.getElem_toArray, List.getElem_cons_succ, List.getElem_cons_zero, List.setIfInBounds_toArray, List.set_cons_zero, List.set_cons_succ]
          refine hd_take (i := 6) (v := ?_) rfl (by kernel_rfl) (by kernel_rfl) (by kernel_rfl) (by kernel_rfl) (fun _ _ _ h => h) (by assumption) (Or.inl ⟨by rfl, ?_⟩) ?_
          rotate_left
          · (intro w hSw; (try dsimp only at hSw); go_simp; first | done | with_reducible rfl)
          try simp only [Act.put, List.getElem_toArray, List.getElem_cons_succ, List.getElem_cons_zero, List.setIfInBounds_toArray, List.set_cons_zero, List.set_cons_succ]
          refine hd_take (i := 7) (v := ?_) rfl (by kernel_rfl) (by kernel_rfl) (by kernel_rfl) (by kernel_rfl) (fun _ _ _ h => h) (by assumption) (Or.inl ⟨by rfl, ?_⟩) ?_
          rotate_left
          · (intro w hSw; (try dsimp only at hSw); go_simp; first | done | with_reducible rfl)
          try simp only [Act.put, List.getElem_toArray, List.getElem_cons_succ, List.getElem_cons_zero, List.setIfInBounds_toArray, List.set_cons_zero, List.set_cons_succ]
          refine hd_take (i := 8) (v := ?_) rfl (by kernel_rfl) (by kernel_rfl) (by kernel_rfl) (by kernel_rfl) (fun _ _ _ h => h) (by assumption) (Or.inl ⟨by rfl, ?_⟩) ?_
          rotate_left
          · (intro w hSw; (try dsimp only at hSw); go_simp; first | done | with_reducible rfl)
          try simp only [Act.put, List.getElem_toArray, List.getElem_cons_succ, List.getElem_cons_zero, List.setIfInBounds_toArray, List.set_cons_zero, List.set_cons_succ]
          refine hd_one (i := 9) rfl (by kernel_rfl) (by kernel_rfl) (fun K hK => ?_)
          go_simp
          obtain ⟨wk3, hwa⟩ : ∃ W, W = wk2.alloc (.cells #[.slice none 0 0, .slice none 0 0, .slice none 0 0] 41) := ⟨_, rfl⟩
          rw [← hwa]
          have hba : Fresh wk2 wk3 := by rw [hwa]; exact fnew (frefl _) _
          have ra : RowAt wk3 wk2.heap.size 41 [.slice none 0 0, .slice none 0 0, .slice none 0 0] := by rw [hwa]; exact RowAt.new _ _ _
          have hga : Xx2.heap.size ≤ wk2.heap.size := fk2.size
          have fk3 := fstep fk2 hba
          clear hwa
          refine hK.out _ _ ?_ (fun hHeld => ?_)
          · exact ⟨fkeep fk3 c0_0, fkeep fk3 c0_1, fkeep fk3 c0_2, fkeep fk3 c2_0, fkeep fk3 c2_1, fkeep fk3 a3_0, fkeep fk3 a3_1⟩
          clear hK K
          try simp only [Act.put, List.getElem_toArray, List.getElem_cons_succ, List.getElem_cons_zero, List.setIfInBounds_toArray, List.set_cons_zero, List.set_cons_succ]
          have rb := ra
          have z0 := rb.cell (i := 0) rfl
          have z1 := rb.cell (i := 1) rfl
          have z2 := rb.cell (i := 2) rfl
          have u0 := rb.frozen 0
          have u1 := rb.frozen 1
          have u2 := rb.frozen 2
          have fs := (fset (fset (fset fk3 hga (o := 0) (.slice qG mG cG)) hga (o := 1) (.slice fG kG dG)) hga (o := 2) (.slice tG iG eG))
          refine hd_one (i := 10) rfl (by kernel_rfl) (by kernel_rfl) (fun K hK => ?_)
          (go_simp)
          refine hK.out _ _ ?_ (fun hHeld => ?_)
          · exact ⟨fkeep fs c0_0, fkeep fs c0_1, fkeep fs c0_2, fkeep fs c2_0, fkeep fs c2_1, fkeep fs a3_0, fkeep fs a3_1⟩
          clear hK K
          try simp only [Act.put, List.getElem_toArray, List.getElem_cons_succ, List.getElem_cons_zero, List.setIfInBounds_toArray, List.set_cons_zero, List.set_cons_succ]
          refine hd_done (by kernel_rfl) ?_
          clear hHeld
          simp only [List.drop_succ_cons, List.drop_zero]
          go_wp2_with fail
          go_meet
          have hrow := (((rb.set 0 (.slice qG mG cG)).set 1 (.slice fG kG dG)).set 2 (.slice tG iG eG))
          exact ⟨_, _, _, _, _, _, _, _, _, _, rfl, rfl, hrow, (((how.keep hba).box rb).mono fk1.size).held, fs, hga⟩
        · refine hd_cons (i := 9) rfl (by kernel_rfl) (fun K hK => ?_) hd_nil
          go_simp
          obtain ⟨wk4, hwa⟩ : ∃ W, W = wk1.alloc (.cells #[.slice none 0 0, .slice none 0 0, .slice none 0 0] 41) := ⟨_, rfl⟩
          rw [← hwa]
          have hba : Fresh wk1 wk4 := by rw [hwa]; exact fnew (frefl _) _
          have ra : RowAt wk4 wk1.heap.size 41 [.slice none 0 0, .slice none 0 0, .slice none 0 0] := by rw [hwa]; exact RowAt.new _ _ _
          have hga : Xx2.heap.size ≤ wk1.heap.size := fk1.size
          have fk4 := fstep fk1 hba
          clear hwa
          refine hK.out _ _ ?_ (fun hHeld => ?_)
          · exact ⟨fkeep fk4 c0_0, fkeep fk4 c0_1, fkeep fk4 c0_2, fkeep fk4 c2_0, fkeep fk4 c2_1, fkeep fk4 a3_0, fkeep fk4 a3_1⟩
          clear hK K
          try simp only [Act.put, List.getElem_toArray, List.getElem_cons_succ, List.getElem_cons_zero, List.setIfInBounds_toArray, List.set_cons_zero, List.set_cons_succ]
          refine hd_one (i := 5) rfl (by kernel_rfl) (by kernel_rfl) (fun K hK => ?_)
          go_simp
          go_at_call 12
          have hcc := implMoveLight_l _ x0 x1 _ x2 (f3a, n3a) _ (HZ0.out.keep fk4) (HZ2.out.keep fk4)
          rw [← HR0.out, ← HR1.out] at hcc
          refine hcc.mono ?_
          clear hcc
          rintro e wk5 ⟨vG, rfl, how, hbr⟩
          obtain ⟨qG, mG, cG, fG, kG, dG, tG, iG, eG, hvv⟩ := how.shape
          subst hvv
          have fk5 := fstep fk4 hbr
          go_wp2_with fail
          refine hK.out _ _ ?_ (fun hHeld => ?_)
          · exact ⟨fkeep fk5 c0_0, fkeep fk5 c0_1, fkeep fk5 c0_2, fkeep fk5 c2_0, fkeep fk5 c2_1, fkeep fk5 a3_0, fkeep fk5 a3_1⟩
          clear hK K
          try simp only [Act.put, List.getElem_toArray, List.getElem_cons_succ, List.getElem_cons_zero, List.setIfInBounds_toArray, List.set_cons_zero, List.set_cons_succ]
          refine hd_take (i := 6) (v := ?_) rfl (by kernel_rfl) (by kernel_rfl) (by kernel_rfl) (by kernel_rfl) (fun _ _ _ h => h) (by assumption) (Or.inl ⟨by rfl, ?_⟩) ?_
          rotate_left
          · (intro w hSw; (try dsimp only at hSw); go_simp; first | done | with_reducible rfl)
          try simp only [Act.put, List.getElem_toArray, List.getElem_cons_succ, List.getElem_cons_zero, List.setIfInBounds_toArray, List.set_cons_zero, List.set_cons_succ]
          refine hd_take (i := 7) (v := ?_) rfl (by kernel_rfl) (by kernel_rfl) (by kernel_rfl) (by kernel_rfl) (fun _ _ _ h => h) (by assumption) (Or.inl ⟨by rfl, ?_⟩) ?_
          rotate_left
          · (intro w hSw; (try dsimp only at hSw); go_simp; first | done | with_reducible rfl)
          try simp only [Act.put, List.getElem_toArray, List.getElem_cons_succ, List.getElem_cons_zero, List.setIfInBounds_toArray, List.set_cons_zero, List.set_cons_succ]
          refine hd_take (i := 8) (v := ?_) rfl (by kernel_rfl) (by kernel_rfl) (by kernel_rfl) (by kernel_rfl) (fun _ _ _ h => h) (by assumption) (Or.inl ⟨by rfl, ?_⟩) ?_
          rotate_left
          · (intro w hSw; (try dsimp only at hSw); go_simp; first | done | with_reducible rfl)
          try simp only [Act.put, List.getElem_toArray, List.getElem_cons_succ, List.getElem_cons_zero, List.setIfInBounds_toArray, List.set_cons_zero, List.set_cons_succ]
          have rb := (ra.keep hbr)
          have z0 := rb.cell (i := 0) rfl
          have z1 := rb.cell (i := 1) rfl
          have z2 := rb.cell (i := 2) rfl
          have u0 := rb.frozen 0
          have u1 := rb.frozen 1
          have u2 := rb.frozen 2
          have fs := (fset (fset (fset fk5 hga (o := 0) (.slice qG mG cG)) hga (o := 1) (.slice fG kG dG)) hga (o := 2) (.slice tG iG eG))
          refine hd_one (i := 10) rfl (by kernel_rfl) (by kernel_rfl) (fun K hK => ?_)
          (go_simp)
          refine hK.out _ _ ?_ (fun hHeld => ?_)
          · exact ⟨fkeep fs c0_0, fkeep fs c0_1, fkeep fs c0_2, fkeep fs c2_0, fkeep fs c2_1, fkeep fs a3_0, fkeep fs a3_1⟩
          clear hK K
          try simp only [Act.put, List.getElem_toArray, List.getElem_cons_succ, List.getElem_cons_zero, List.setIfInBounds_toArray, List.set_cons_zero, List.set_cons_succ]
          refine hd_done (by kernel_rfl) ?_
          clear hHeld
          simp only [List.drop_succ_cons, List.drop_zero]
          go_wp2_with fail
          go_meet
          have hrow := (((rb.set 0 (.slice qG mG cG)).set 1 (.slice fG kG dG)).set 2 (.slice tG iG eG))
          exact ⟨_, _, _, _, _, _, _, _, _, _, rfl, rfl, hrow, ((how.box rb).mono fk4.size).held, fs, hga⟩
      · refine hd_cons (i := 9) rfl (by kernel_rfl) (fun K hK => ?_) hd_nil
        go_simp
        obtain ⟨wk6, hwa⟩ : ∃ W, W = Wz.alloc (.cells #[.slice none 0 0, .slice none 0 0, .slice none 0 0] 41) := ⟨_, rfl⟩
        rw [← hwa]
        have hba : Fresh Wz wk6 := by rw [hwa]; exact fnew (frefl _) _
        have ra : RowAt wk6 Wz.heap.size 41 [.slice none 0 0, .slice none 0 0, .slice none 0 0] := by rw [hwa]; exact RowAt.new _ _ _
        have hga : Xx2.heap.size ≤ Wz.heap.size := f0.size
        have fk6 := fstep f0 hba
        clear hwa
        refine hK.out _ _ ?_ (fun hHeld => ?_)
        · exact ⟨fkeep fk6 c0_0, fkeep fk6 c0_1, fkeep fk6 c0_2, fkeep fk6 c2_0, fkeep fk6 c2_1, fkeep fk6 a3_0, fkeep fk6 a3_1⟩
        clear hK K
        try simp only [Act.put, List.getElem_toArray, List.getElem_cons_succ, List.getElem_cons_zero, List.setIfInBounds_toArray, List.set_cons_zero, List.set_cons_succ]
        refine hd_one (i := 4) rfl (by kernel_rfl) (by kernel_rfl) (fun K hK => ?_)
        go_simp
        go_at_call 11
        refine (toBlock_any f3a n3a _).mono ?_
        rintro e wk7 ⟨rfl, hb3⟩
        have fk7 := fstep fk6 hb3
        go_wp2_with fail
        refine hK.out _ _ ?_ (fun hHeld => ?_)
        · exact ⟨fkeep fk7 c0_0, fkeep fk7 c0_1, fkeep fk7 c0_2, fkeep fk7 c2_0, fkeep fk7 c2_1, fkeep fk7 a3_0, fkeep fk7 a3_1⟩
        clear hK K
        try simp only [Act.put, List.getElem_toArray, List.getElem_cons_succ, List.getElem_cons_zero, List.setIfInBounds_toArray, List.set_cons_zero, List.set_cons_succ]
        refine hd_one (i := 5) rfl (by kernel_rfl) (by kernel_rfl) (fun K hK => ?_)
        go_simp
        go_at_call 12
        have hcc := implMoveLight_l _ x0 x1 _ x2 (f3a, n3a) _ (HZ0.out.keep fk7) (HZ2.out.keep fk7)
        rw [← HR0.out, ← HR1.out] at hcc
        refine hcc.mono ?_
        clear hcc
        rintro e wk8 ⟨vG, rfl, how, hbr⟩
        obtain ⟨qG, mG, cG, fG, kG, dG, tG, iG, eG, hvv⟩ := how.shape
        subst hvv
        have fk8 := fstep fk7 hbr
        go_wp2_with fail
        refine hK.out _ _ ?_ (fun hHeld => ?_)
        · exact ⟨fkeep fk8 c0_0, fkeep fk8 c0_1, fkeep fk8 c0_2, fkeep fk8 c2_0, fkeep fk8 c2_1, fkeep fk8 a3_0, fkeep fk8 a3_1⟩
        clear hK K
        try simp only [Act.put, List.getElem_toArray, List.getElem_cons_succ, List.getElem_cons_zero, List.setIfInBounds_toArray, List.set_cons_zero, List.set_cons_succ]
        refine hd_take (i := 6) (v := ?_) rfl (by kernel_rfl) (by kernel_rfl) (by kernel_rfl) (by kernel_rfl) (fun _ _ _ h => h) (by assumption) (Or.inl ⟨by rfl, ?_⟩) ?_
        rotate_left
        · (intro w hSw; (try dsimp only at hSw); go_simp; first | done | with_reducible rfl)
        try simp only [Act.put, List.getElem_toArray, List.getElem_cons_succ, List.getElem_cons_zero, List.setIfInBounds_toArray, List.set_cons_zero, List.set_cons_succ]
        refine hd_take (i := 7) (v := ?_) rfl (by kernel_rfl) (by kernel_rfl) (by kernel_rfl) (by kernel_rfl) (fun _ _ _ h => h) (by assumption) (Or.inl ⟨by rfl, ?_⟩) ?_
        rotate_left
        · (intro w hSw; (try dsimp only at hSw); go_simp; first | done | with_reducible rfl)
        try simp only [Act.put, List.getElem_toArray, List.getElem_cons_succ, List.getElem_cons_zero, List.setIfInBounds_toArray, List.set_cons_zero, List.set_cons_succ]
        refine hd_take (i := 8) (v := ?_) rfl (by kernel_rfl) (by kernel_rfl) (by kernel_rfl) (by kernel_rfl) (fun _ _ _ h => h) (by assumption) (Or.inl ⟨by rfl, ?_⟩) ?_
        rotate_left
        · (intro w hSw; (try dsimp only at hSw); go_simp; first | done | with_reducible rfl)
        try simp only [Act.put, List.getElem_toArray, List.getElem_cons_succ, List.getElem_cons_zero, List.setIfInBounds_toArray, List.set_cons_zero, List.set_cons_succ]
        have rb := ((ra.keep hb3).keep hbr)
        have z0 := rb.cell (i := 0) rfl
        have z1 := rb.cell (i := 1) rfl
        have z2 := rb.cell (i := 2) rfl
        have u0 := rb.frozen 0
        have u1 := rb.frozen 1
        have u2 := rb.frozen 2
        have fs := (fset (fset (fset fk8 hga (o := 0) (.slice qG mG cG)) hga (o := 1) (.slice fG kG dG)) hga (o := 2) (.slice tG iG eG))
        refine hd_one (i := 10) rfl (by kernel_rfl) (by kernel_rfl) (fun K hK => ?_)
        (go_simp)
        refine hK.out _ _ ?_ (fun hHeld => ?_)
        · exact ⟨fkeep fs c0_0, fkeep fs c0_1, fkeep fs c0_2, fkeep fs c2_0, fkeep fs c2_1, fkeep fs a3_0, fkeep fs a3_1⟩
        clear hK K
        try simp only [Act.put, List.getElem_toArray, List.getElem_cons_succ, List.getElem_cons_zero, List.setIfInBounds_toArray, List.set_cons_zero, List.set_cons_succ]
        refine hd_done (by kernel_rfl) ?_
        clear hHeld
        simp only [List.drop_succ_cons, List.drop_zero]
        go_wp2_with fail
        go_meet
        have hrow := (((rb.set 0 (.slice qG mG cG)).set 1 (.slice fG kG dG)).set 2 (.slice tG iG eG))
        exact ⟨_, _, _, _, _, _, _, _, _, _, rfl, rfl, hrow, ((how.box rb).mono fk7.size).held, fs, hga⟩
    case rest =>
      obtain ⟨gbG, qG, mG, cG, fG, kG, dG, tG, iG, eG, rfl, rfl, hrowG, howG, hb, hgbG⟩ := hcut
      have HRG := Lib.hid howG
      have HRWG := Lib.hid hrowG
      have bG_0 := hrowG.cell (i := 0) rfl
      have bG_1 := hrowG.cell (i := 1) rfl
      have bG_2 := hrowG.cell (i := 2) rfl
      have HSZ9 := Lib.hid (show gbG < wc.heap.size from hrowG.lt)
      have HSZ10 := Lib.hid hgbG
      obtain ⟨wcG, hwc⟩ : ∃ W, W = wc := ⟨_, rfl⟩
      subst hwc
      clear hrowG howG hgbG
      have HSZ11 := Lib.hid (hb.size)
      replace a0_0 := fkeep hb a0_0
      replace a0_1 := fkeep hb a0_1
      replace a0_2 := fkeep hb a0_2
      replace a2_0 := fkeep hb a2_0
      replace a2_1 := fkeep hb a2_1
      replace a3_0 := fkeep hb a3_0
      replace a3_1 := fkeep hb a3_1
      replace bW_0 := fkeep hb bW_0
      replace bW_1 := fkeep hb bW_1
      replace bW_2 := fkeep hb bW_2
      replace c0_0 := fkeep hb c0_0
      replace c0_1 := fkeep hb c0_1
      replace c0_2 := fkeep hb c0_2
      replace c2_0 := fkeep hb c2_0
      replace c2_1 := fkeep hb c2_1
      have HF := Lib.hid (fstep HF.out hb)
      replace HRW := Lib.hid (HRW.out.keep hb)
      replace HZ0 := Lib.hid (HZ0.out.keep hb)
      replace HM0 := Lib.hid (HM0.out.keep hb)
      replace HZ2 := Lib.hid (HZ2.out.keep hb)
      replace HM2 := Lib.hid (HM2.out.keep hb)
      clear hb
      go_wp2_with fail
      refine (eqPl_r _ _ _ _ _ _ r0 _ (HRG.out) (HRW.out) HSM.out).mono ?_
      rintro e w5 ⟨rfl, hb⟩
      have HSZ12 := Lib.hid (hb.size)
      replace a0_0 := fkeep hb a0_0
      replace a0_1 := fkeep hb a0_1
      replace a0_2 := fkeep hb a0_2
      replace a2_0 := fkeep hb a2_0
      replace a2_1 := fkeep hb a2_1
      replace a3_0 := fkeep hb a3_0
      replace a3_1 := fkeep hb a3_1
      replace bW_0 := fkeep hb bW_0
      replace bW_1 := fkeep hb bW_1
      replace bW_2 := fkeep hb bW_2
      replace c0_0 := fkeep hb c0_0
      replace c0_1 := fkeep hb c0_1
      replace c0_2 := fkeep hb c0_2
      replace c2_0 := fkeep hb c2_0
      replace c2_1 := fkeep hb c2_1
      replace bG_0 := fkeep hb bG_0
      replace bG_1 := fkeep hb bG_1
      replace bG_2 := fkeep hb bG_2
      have HF := Lib.hid (fstep HF.out hb)
      replace HRW := Lib.hid (HRW.out.keep hb)
      replace HZ0 := Lib.hid (HZ0.out.keep hb)
      replace HM0 := Lib.hid (HM0.out.keep hb)
      replace HZ2 := Lib.hid (HZ2.out.keep hb)
      replace HM2 := Lib.hid (HM2.out.keep hb)
      replace HRWG := Lib.hid (HRWG.out.keep hb)
      replace HRG := Lib.hid (HRG.out.keep hb)
      clear hb
      go_wp2
      have HSS : Fresh w5 w5 ∧ w5.cell? ⟨w3.heap.size, 0, none⟩ = some (.slice q0x m0x c0x) ∧ w5.cell? ⟨w3.heap.size, 1, none⟩ = some (.slice p0x k0x d0x) ∧ w5.cell? ⟨w3.heap.size, 2, none⟩ = some (.slice r0x i0x e0x) ∧ w5.cell? ⟨w.heap.size, 0, none⟩ = some (.slice q0a m0a c0a) ∧ w5.cell? ⟨w.heap.size, 1, none⟩ = some (.slice p0a k0a d0a) ∧ w5.cell? ⟨w.heap.size, 2, none⟩ = some (.slice r0a i0a e0a) := ⟨frefl _, c0_0, c0_1, c0_2, a0_0, a0_1, a0_2⟩
      go_region_held3 (fun w' => Fresh w5 w' ∧ w'.cell? ⟨w3.heap.size, 0, none⟩ = some (.slice q0x m0x c0x) ∧ w'.cell? ⟨w3.heap.size, 1, none⟩ = some (.slice p0x k0x d0x) ∧ w'.cell? ⟨w3.heap.size, 2, none⟩ = some (.slice r0x i0x e0x) ∧ w'.cell? ⟨w.heap.size, 0, none⟩ = some (.slice q0a m0a c0a) ∧ w'.cell? ⟨w.heap.size, 1, none⟩ = some (.slice p0a k0a d0a) ∧ w'.cell? ⟨w.heap.size, 2, none⟩ = some (.slice r0a i0a e0a))
        (first | assumption | exact keepc6 (by assumption) (by assumption) | exact keepc6 (by assumption) (fdrew (frefl _)) | exact keepc6 (by assumption) (frefl _))
        (first | (go_at_call 9; refine (toPlan_k _ x0 _ (HI0.out.keep (fstep HF.out (And.left (by assumption))))).mono ?_; rintro e w6 ⟨t0, rfl, hy, hb10⟩; have HT0 := Lib.hid hy; clear hy) | (go_at_call 13; refine (eqPlan_k _ _ x0 _ (HZ0.out.keep (And.left (by assumption))) HT0.out).mono ?_; rintro e w7 ⟨rfl, hb11⟩))
      have hb : Fresh w5 w7 := fstep (fstep (fdrew (frefl _)) hb10) hb11
      clear hb10 hb11 HSS HT0
      have HSZ13 := Lib.hid (hb.size)
      replace a0_0 := fkeep hb a0_0
      replace a0_1 := fkeep hb a0_1
      replace a0_2 := fkeep hb a0_2
      replace a2_0 := fkeep hb a2_0
      replace a2_1 := fkeep hb a2_1
      replace a3_0 := fkeep hb a3_0
      replace a3_1 := fkeep hb a3_1
      replace bW_0 := fkeep hb bW_0
      replace bW_1 := fkeep hb bW_1
      replace bW_2 := fkeep hb bW_2
      replace c0_0 := fkeep hb c0_0
      replace c0_1 := fkeep hb c0_1
      replace c0_2 := fkeep hb c0_2
      replace c2_0 := fkeep hb c2_0
      replace c2_1 := fkeep hb c2_1
      replace bG_0 := fkeep hb bG_0
      replace bG_1 := fkeep hb bG_1
      replace bG_2 := fkeep hb bG_2
      have HF := Lib.hid (fstep HF.out hb)
      replace HRW := Lib.hid (HRW.out.keep hb)
      replace HZ0 := Lib.hid (HZ0.out.keep hb)
      replace HM0 := Lib.hid (HM0.out.keep hb)
      replace HZ2 := Lib.hid (HZ2.out.keep hb)
      replace HM2 := Lib.hid (HM2.out.keep hb)
      replace HRWG := Lib.hid (HRWG.out.keep hb)
      replace HRG := Lib.hid (HRG.out.keep hb)
      clear hb
      go_wp2
      have HSS : Fresh w7 w7 ∧ w7.cell? ⟨w4.heap.size, 0, none⟩ = some (.int .i64 s2x) ∧ w7.cell? ⟨w4.heap.size, 1, none⟩ = some (.slice q2x m2x c2x) ∧ w7.cell? ⟨w.heap.size + 1, 0, none⟩ = some (.int .i64 s2a) ∧ w7.cell? ⟨w.heap.size + 1, 1, none⟩ = some (.slice q2a m2a c2a) := ⟨frefl _, c2_0, c2_1, a2_0, a2_1⟩
      go_region_held3 (fun w' => Fresh w7 w' ∧ w'.cell? ⟨w4.heap.size, 0, none⟩ = some (.int .i64 s2x) ∧ w'.cell? ⟨w4.heap.size, 1, none⟩ = some (.slice q2x m2x c2x) ∧ w'.cell? ⟨w.heap.size + 1, 0, none⟩ = some (.int .i64 s2a) ∧ w'.cell? ⟨w.heap.size + 1, 1, none⟩ = some (.slice q2a m2a c2a))
        (first | assumption | exact keepc4 (by assumption) (by assumption) | exact keepc4 (by assumption) (fdrew (frefl _)) | exact keepc4 (by assumption) (frefl _))
        (first | (go_at_call 10; refine (toRoute_k _ x2 _ (HI2.out.keep (fstep HF.out (And.left (by assumption))))).mono ?_; rintro e w8 ⟨t2, rfl, hy, hb10⟩; have HT2 := Lib.hid hy; clear hy) | (go_at_call 14; refine (eqRoute_k _ _ x2 _ (HZ2.out.keep (And.left (by assumption))) HT2.out).mono ?_; rintro e w9 ⟨rfl, hb11⟩))
      have hb : Fresh w7 w9 := fstep (fstep (fdrew (frefl _)) hb10) hb11
      clear hb10 hb11 HSS HT2
      have HSZ14 := Lib.hid (hb.size)
      replace a0_0 := fkeep hb a0_0
      replace a0_1 := fkeep hb a0_1
      replace a0_2 := fkeep hb a0_2
      replace a2_0 := fkeep hb a2_0
      replace a2_1 := fkeep hb a2_1
      replace a3_0 := fkeep hb a3_0
      replace a3_1 := fkeep hb a3_1
      replace bW_0 := fkeep hb bW_0
      replace bW_1 := fkeep hb bW_1
      replace bW_2 := fkeep hb bW_2
      replace c0_0 := fkeep hb c0_0
      replace c0_1 := fkeep hb c0_1
      replace c0_2 := fkeep hb c0_2
      replace c2_0 := fkeep hb c2_0
      replace c2_1 := fkeep hb c2_1
      replace bG_0 := fkeep hb bG_0
      replace bG_1 := fkeep hb bG_1
      replace bG_2 := fkeep hb bG_2
      have HF := Lib.hid (fstep HF.out hb)
      replace HRW := Lib.hid (HRW.out.keep hb)
      replace HZ0 := Lib.hid (HZ0.out.keep hb)
      replace HM0 := Lib.hid (HM0.out.keep hb)
      replace HZ2 := Lib.hid (HZ2.out.keep hb)
      replace HM2 := Lib.hid (HM2.out.keep hb)
      replace HRWG := Lib.hid (HRWG.out.keep hb)
      replace HRG := Lib.hid (HRG.out.keep hb)
      clear hb
      clear HZ0 HZ2
      go_wp2_with fail
      refine (markPlan_m _ (wcW.heap.size) (w3.heap.size) 1 _ HM0.out (by have s0 := HSZ0.out; have s1 := HSZ1.out; have s2 := HSZ2.out; have s3 := HSZ3.out; have s4 := HSZ4.out; have s5 := HSZ5.out; have s6 := HSZ6.out; have s7 := HSZ7.out; have s8 := HSZ8.out; have s9 := HSZ9.out; have s10 := HSZ10.out; have s11 := HSZ11.out; have s12 := HSZ12.out; have s13 := HSZ13.out; have s14 := HSZ14.out; omega) (by have s0 := HSZ0.out; have s1 := HSZ1.out; have s2 := HSZ2.out; have s3 := HSZ3.out; have s4 := HSZ4.out; have s5 := HSZ5.out; have s6 := HSZ6.out; have s7 := HSZ7.out; have s8 := HSZ8.out; have s9 := HSZ9.out; have s10 := HSZ10.out; have s11 := HSZ11.out; have s12 := HSZ12.out; have s13 := HSZ13.out; have s14 := HSZ14.out; omega) (by omega) (by omega)).mono ?_
      rintro e w10 ⟨k0, rfl, hka0, hkb0, hb⟩
      clear HM0
      replace hkb0 : k0 ≤ 1 + 17592186044416 := hkb0
      have HSZ15 := Lib.hid (hb.low.size)
      replace a0_0 := Mk.cell hb (by first | exact Or.inl (by have s0 := HSZ0.out; have s1 := HSZ1.out; have s2 := HSZ2.out; have s3 := HSZ3.out; have s4 := HSZ4.out; have s5 := HSZ5.out; have s6 := HSZ6.out; have s7 := HSZ7.out; have s8 := HSZ8.out; have s9 := HSZ9.out; have s10 := HSZ10.out; have s11 := HSZ11.out; have s12 := HSZ12.out; have s13 := HSZ13.out; have s14 := HSZ14.out; have s15 := HSZ15.out; omega) | exact Or.inr (by have s0 := HSZ0.out; have s1 := HSZ1.out; have s2 := HSZ2.out; have s3 := HSZ3.out; have s4 := HSZ4.out; have s5 := HSZ5.out; have s6 := HSZ6.out; have s7 := HSZ7.out; have s8 := HSZ8.out; have s9 := HSZ9.out; have s10 := HSZ10.out; have s11 := HSZ11.out; have s12 := HSZ12.out; have s13 := HSZ13.out; have s14 := HSZ14.out; have s15 := HSZ15.out; omega)) a0_0
      replace a0_1 := Mk.cell hb (by first | exact Or.inl (by have s0 := HSZ0.out; have s1 := HSZ1.out; have s2 := HSZ2.out; have s3 := HSZ3.out; have s4 := HSZ4.out; have s5 := HSZ5.out; have s6 := HSZ6.out; have s7 := HSZ7.out; have s8 := HSZ8.out; have s9 := HSZ9.out; have s10 := HSZ10.out; have s11 := HSZ11.out; have s12 := HSZ12.out; have s13 := HSZ13.out; have s14 := HSZ14.out; have s15 := HSZ15.out; omega) | exact Or.inr (by have s0 := HSZ0.out; have s1 := HSZ1.out; have s2 := HSZ2.out; have s3 := HSZ3.out; have s4 := HSZ4.out; have s5 := HSZ5.out; have s6 := HSZ6.out; have s7 := HSZ7.out; have s8 := HSZ8.out; have s9 := HSZ9.out; have s10 := HSZ10.out; have s11 := HSZ11.out; have s12 := HSZ12.out; have s13 := HSZ13.out; have s14 := HSZ14.out; have s15 := HSZ15.out; omega)) a0_1
      replace a0_2 := Mk.cell hb (by first | exact Or.inl (by have s0 := HSZ0.out; have s1 := HSZ1.out; have s2 := HSZ2.out; have s3 := HSZ3.out; have s4 := HSZ4.out; have s5 := HSZ5.out; have s6 := HSZ6.out; have s7 := HSZ7.out; have s8 := HSZ8.out; have s9 := HSZ9.out; have s10 := HSZ10.out; have s11 := HSZ11.out; have s12 := HSZ12.out; have s13 := HSZ13.out; have s14 := HSZ14.out; have s15 := HSZ15.out; omega) | exact Or.inr (by have s0 := HSZ0.out; have s1 := HSZ1.out; have s2 := HSZ2.out; have s3 := HSZ3.out; have s4 := HSZ4.out; have s5 := HSZ5.out; have s6 := HSZ6.out; have s7 := HSZ7.out; have s8 := HSZ8.out; have s9 := HSZ9.out; have s10 := HSZ10.out; have s11 := HSZ11.out; have s12 := HSZ12.out; have s13 := HSZ13.out; have s14 := HSZ14.out; have s15 := HSZ15.out; omega)) a0_2
      replace a2_0 := Mk.cell hb (by first | exact Or.inl (by have s0 := HSZ0.out; have s1 := HSZ1.out; have s2 := HSZ2.out; have s3 := HSZ3.out; have s4 := HSZ4.out; have s5 := HSZ5.out; have s6 := HSZ6.out; have s7 := HSZ7.out; have s8 := HSZ8.out; have s9 := HSZ9.out; have s10 := HSZ10.out; have s11 := HSZ11.out; have s12 := HSZ12.out; have s13 := HSZ13.out; have s14 := HSZ14.out; have s15 := HSZ15.out; omega) | exact Or.inr (by have s0 := HSZ0.out; have s1 := HSZ1.out; have s2 := HSZ2.out; have s3 := HSZ3.out; have s4 := HSZ4.out; have s5 := HSZ5.out; have s6 := HSZ6.out; have s7 := HSZ7.out; have s8 := HSZ8.out; have s9 := HSZ9.out; have s10 := HSZ10.out; have s11 := HSZ11.out; have s12 := HSZ12.out; have s13 := HSZ13.out; have s14 := HSZ14.out; have s15 := HSZ15.out; omega)) a2_0
      replace a2_1 := Mk.cell hb (by first | exact Or.inl (by have s0 := HSZ0.out; have s1 := HSZ1.out; have s2 := HSZ2.out; have s3 := HSZ3.out; have s4 := HSZ4.out; have s5 := HSZ5.out; have s6 := HSZ6.out; have s7 := HSZ7.out; have s8 := HSZ8.out; have s9 := HSZ9.out; have s10 := HSZ10.out; have s11 := HSZ11.out; have s12 := HSZ12.out; have s13 := HSZ13.out; have s14 := HSZ14.out; have s15 := HSZ15.out; omega) | exact Or.inr (by have s0 := HSZ0.out; have s1 := HSZ1.out; have s2 := HSZ2.out; have s3 := HSZ3.out; have s4 := HSZ4.out; have s5 := HSZ5.out; have s6 := HSZ6.out; have s7 := HSZ7.out; have s8 := HSZ8.out; have s9 := HSZ9.out; have s10 := HSZ10.out; have s11 := HSZ11.out; have s12 := HSZ12.out; have s13 := HSZ13.out; have s14 := HSZ14.out; have s15 := HSZ15.out; omega)) a2_1
      replace a3_0 := Mk.cell hb (by first | exact Or.inl (by have s0 := HSZ0.out; have s1 := HSZ1.out; have s2 := HSZ2.out; have s3 := HSZ3.out; have s4 := HSZ4.out; have s5 := HSZ5.out; have s6 := HSZ6.out; have s7 := HSZ7.out; have s8 := HSZ8.out; have s9 := HSZ9.out; have s10 := HSZ10.out; have s11 := HSZ11.out; have s12 := HSZ12.out; have s13 := HSZ13.out; have s14 := HSZ14.out; have s15 := HSZ15.out; omega) | exact Or.inr (by have s0 := HSZ0.out; have s1 := HSZ1.out; have s2 := HSZ2.out; have s3 := HSZ3.out; have s4 := HSZ4.out; have s5 := HSZ5.out; have s6 := HSZ6.out; have s7 := HSZ7.out; have s8 := HSZ8.out; have s9 := HSZ9.out; have s10 := HSZ10.out; have s11 := HSZ11.out; have s12 := HSZ12.out; have s13 := HSZ13.out; have s14 := HSZ14.out; have s15 := HSZ15.out; omega)) a3_0
      replace a3_1 := Mk.cell hb (by first | exact Or.inl (by have s0 := HSZ0.out; have s1 := HSZ1.out; have s2 := HSZ2.out; have s3 := HSZ3.out; have s4 := HSZ4.out; have s5 := HSZ5.out; have s6 := HSZ6.out; have s7 := HSZ7.out; have s8 := HSZ8.out; have s9 := HSZ9.out; have s10 := HSZ10.out; have s11 := HSZ11.out; have s12 := HSZ12.out; have s13 := HSZ13.out; have s14 := HSZ14.out; have s15 := HSZ15.out; omega) | exact Or.inr (by have s0 := HSZ0.out; have s1 := HSZ1.out; have s2 := HSZ2.out; have s3 := HSZ3.out; have s4 := HSZ4.out; have s5 := HSZ5.out; have s6 := HSZ6.out; have s7 := HSZ7.out; have s8 := HSZ8.out; have s9 := HSZ9.out; have s10 := HSZ10.out; have s11 := HSZ11.out; have s12 := HSZ12.out; have s13 := HSZ13.out; have s14 := HSZ14.out; have s15 := HSZ15.out; omega)) a3_1
      replace bW_0 := Mk.cell hb (by first | exact Or.inl (by have s0 := HSZ0.out; have s1 := HSZ1.out; have s2 := HSZ2.out; have s3 := HSZ3.out; have s4 := HSZ4.out; have s5 := HSZ5.out; have s6 := HSZ6.out; have s7 := HSZ7.out; have s8 := HSZ8.out; have s9 := HSZ9.out; have s10 := HSZ10.out; have s11 := HSZ11.out; have s12 := HSZ12.out; have s13 := HSZ13.out; have s14 := HSZ14.out; have s15 := HSZ15.out; omega) | exact Or.inr (by have s0 := HSZ0.out; have s1 := HSZ1.out; have s2 := HSZ2.out; have s3 := HSZ3.out; have s4 := HSZ4.out; have s5 := HSZ5.out; have s6 := HSZ6.out; have s7 := HSZ7.out; have s8 := HSZ8.out; have s9 := HSZ9.out; have s10 := HSZ10.out; have s11 := HSZ11.out; have s12 := HSZ12.out; have s13 := HSZ13.out; have s14 := HSZ14.out; have s15 := HSZ15.out; omega)) bW_0
      replace bW_1 := Mk.cell hb (by first | exact Or.inl (by have s0 := HSZ0.out; have s1 := HSZ1.out; have s2 := HSZ2.out; have s3 := HSZ3.out; have s4 := HSZ4.out; have s5 := HSZ5.out; have s6 := HSZ6.out; have s7 := HSZ7.out; have s8 := HSZ8.out; have s9 := HSZ9.out; have s10 := HSZ10.out; have s11 := HSZ11.out; have s12 := HSZ12.out; have s13 := HSZ13.out; have s14 := HSZ14.out; have s15 := HSZ15.out; omega) | exact Or.inr (by have s0 := HSZ0.out; have s1 := HSZ1.out; have s2 := HSZ2.out; have s3 := HSZ3.out; have s4 := HSZ4.out; have s5 := HSZ5.out; have s6 := HSZ6.out; have s7 := HSZ7.out; have s8 := HSZ8.out; have s9 := HSZ9.out; have s10 := HSZ10.out; have s11 := HSZ11.out; have s12 := HSZ12.out; have s13 := HSZ13.out; have s14 := HSZ14.out; have s15 := HSZ15.out; omega)) bW_1
      replace bW_2 := Mk.cell hb (by first | exact Or.inl (by have s0 := HSZ0.out; have s1 := HSZ1.out; have s2 := HSZ2.out; have s3 := HSZ3.out; have s4 := HSZ4.out; have s5 := HSZ5.out; have s6 := HSZ6.out; have s7 := HSZ7.out; have s8 := HSZ8.out; have s9 := HSZ9.out; have s10 := HSZ10.out; have s11 := HSZ11.out; have s12 := HSZ12.out; have s13 := HSZ13.out; have s14 := HSZ14.out; have s15 := HSZ15.out; omega) | exact Or.inr (by have s0 := HSZ0.out; have s1 := HSZ1.out; have s2 := HSZ2.out; have s3 := HSZ3.out; have s4 := HSZ4.out; have s5 := HSZ5.out; have s6 := HSZ6.out; have s7 := HSZ7.out; have s8 := HSZ8.out; have s9 := HSZ9.out; have s10 := HSZ10.out; have s11 := HSZ11.out; have s12 := HSZ12.out; have s13 := HSZ13.out; have s14 := HSZ14.out; have s15 := HSZ15.out; omega)) bW_2
      replace c0_0 := Mk.cell hb (by first | exact Or.inl (by have s0 := HSZ0.out; have s1 := HSZ1.out; have s2 := HSZ2.out; have s3 := HSZ3.out; have s4 := HSZ4.out; have s5 := HSZ5.out; have s6 := HSZ6.out; have s7 := HSZ7.out; have s8 := HSZ8.out; have s9 := HSZ9.out; have s10 := HSZ10.out; have s11 := HSZ11.out; have s12 := HSZ12.out; have s13 := HSZ13.out; have s14 := HSZ14.out; have s15 := HSZ15.out; omega) | exact Or.inr (by have s0 := HSZ0.out; have s1 := HSZ1.out; have s2 := HSZ2.out; have s3 := HSZ3.out; have s4 := HSZ4.out; have s5 := HSZ5.out; have s6 := HSZ6.out; have s7 := HSZ7.out; have s8 := HSZ8.out; have s9 := HSZ9.out; have s10 := HSZ10.out; have s11 := HSZ11.out; have s12 := HSZ12.out; have s13 := HSZ13.out; have s14 := HSZ14.out; have s15 := HSZ15.out; omega)) c0_0
      replace c0_1 := Mk.cell hb (by first | exact Or.inl (by have s0 := HSZ0.out; have s1 := HSZ1.out; have s2 := HSZ2.out; have s3 := HSZ3.out; have s4 := HSZ4.out; have s5 := HSZ5.out; have s6 := HSZ6.out; have s7 := HSZ7.out; have s8 := HSZ8.out; have s9 := HSZ9.out; have s10 := HSZ10.out; have s11 := HSZ11.out; have s12 := HSZ12.out; have s13 := HSZ13.out; have s14 := HSZ14.out; have s15 := HSZ15.out; omega) | exact Or.inr (by have s0 := HSZ0.out; have s1 := HSZ1.out; have s2 := HSZ2.out; have s3 := HSZ3.out; have s4 := HSZ4.out; have s5 := HSZ5.out; have s6 := HSZ6.out; have s7 := HSZ7.out; have s8 := HSZ8.out; have s9 := HSZ9.out; have s10 := HSZ10.out; have s11 := HSZ11.out; have s12 := HSZ12.out; have s13 := HSZ13.out; have s14 := HSZ14.out; have s15 := HSZ15.out; omega)) c0_1
      replace c0_2 := Mk.cell hb (by first | exact Or.inl (by have s0 := HSZ0.out; have s1 := HSZ1.out; have s2 := HSZ2.out; have s3 := HSZ3.out; have s4 := HSZ4.out; have s5 := HSZ5.out; have s6 := HSZ6.out; have s7 := HSZ7.out; have s8 := HSZ8.out; have s9 := HSZ9.out; have s10 := HSZ10.out; have s11 := HSZ11.out; have s12 := HSZ12.out; have s13 := HSZ13.out; have s14 := HSZ14.out; have s15 := HSZ15.out; omega) | exact Or.inr (by have s0 := HSZ0.out; have s1 := HSZ1.out; have s2 := HSZ2.out; have s3 := HSZ3.out; have s4 := HSZ4.out; have s5 := HSZ5.out; have s6 := HSZ6.out; have s7 := HSZ7.out; have s8 := HSZ8.out; have s9 := HSZ9.out; have s10 := HSZ10.out; have s11 := HSZ11.out; have s12 := HSZ12.out; have s13 := HSZ13.out; have s14 := HSZ14.out; have s15 := HSZ15.out; omega)) c0_2
      replace c2_0 := Mk.cell hb (by first | exact Or.inl (by have s0 := HSZ0.out; have s1 := HSZ1.out; have s2 := HSZ2.out; have s3 := HSZ3.out; have s4 := HSZ4.out; have s5 := HSZ5.out; have s6 := HSZ6.out; have s7 := HSZ7.out; have s8 := HSZ8.out; have s9 := HSZ9.out; have s10 := HSZ10.out; have s11 := HSZ11.out; have s12 := HSZ12.out; have s13 := HSZ13.out; have s14 := HSZ14.out; have s15 := HSZ15.out; omega) | exact Or.inr (by have s0 := HSZ0.out; have s1 := HSZ1.out; have s2 := HSZ2.out; have s3 := HSZ3.out; have s4 := HSZ4.out; have s5 := HSZ5.out; have s6 := HSZ6.out; have s7 := HSZ7.out; have s8 := HSZ8.out; have s9 := HSZ9.out; have s10 := HSZ10.out; have s11 := HSZ11.out; have s12 := HSZ12.out; have s13 := HSZ13.out; have s14 := HSZ14.out; have s15 := HSZ15.out; omega)) c2_0
      replace c2_1 := Mk.cell hb (by first | exact Or.inl (by have s0 := HSZ0.out; have s1 := HSZ1.out; have s2 := HSZ2.out; have s3 := HSZ3.out; have s4 := HSZ4.out; have s5 := HSZ5.out; have s6 := HSZ6.out; have s7 := HSZ7.out; have s8 := HSZ8.out; have s9 := HSZ9.out; have s10 := HSZ10.out; have s11 := HSZ11.out; have s12 := HSZ12.out; have s13 := HSZ13.out; have s14 := HSZ14.out; have s15 := HSZ15.out; omega) | exact Or.inr (by have s0 := HSZ0.out; have s1 := HSZ1.out; have s2 := HSZ2.out; have s3 := HSZ3.out; have s4 := HSZ4.out; have s5 := HSZ5.out; have s6 := HSZ6.out; have s7 := HSZ7.out; have s8 := HSZ8.out; have s9 := HSZ9.out; have s10 := HSZ10.out; have s11 := HSZ11.out; have s12 := HSZ12.out; have s13 := HSZ13.out; have s14 := HSZ14.out; have s15 := HSZ15.out; omega)) c2_1
      replace bG_0 := Mk.cell hb (by first | exact Or.inl (by have s0 := HSZ0.out; have s1 := HSZ1.out; have s2 := HSZ2.out; have s3 := HSZ3.out; have s4 := HSZ4.out; have s5 := HSZ5.out; have s6 := HSZ6.out; have s7 := HSZ7.out; have s8 := HSZ8.out; have s9 := HSZ9.out; have s10 := HSZ10.out; have s11 := HSZ11.out; have s12 := HSZ12.out; have s13 := HSZ13.out; have s14 := HSZ14.out; have s15 := HSZ15.out; omega) | exact Or.inr (by have s0 := HSZ0.out; have s1 := HSZ1.out; have s2 := HSZ2.out; have s3 := HSZ3.out; have s4 := HSZ4.out; have s5 := HSZ5.out; have s6 := HSZ6.out; have s7 := HSZ7.out; have s8 := HSZ8.out; have s9 := HSZ9.out; have s10 := HSZ10.out; have s11 := HSZ11.out; have s12 := HSZ12.out; have s13 := HSZ13.out; have s14 := HSZ14.out; have s15 := HSZ15.out; omega)) bG_0
      replace bG_1 := Mk.cell hb (by first | exact Or.inl (by have s0 := HSZ0.out; have s1 := HSZ1.out; have s2 := HSZ2.out; have s3 := HSZ3.out; have s4 := HSZ4.out; have s5 := HSZ5.out; have s6 := HSZ6.out; have s7 := HSZ7.out; have s8 := HSZ8.out; have s9 := HSZ9.out; have s10 := HSZ10.out; have s11 := HSZ11.out; have s12 := HSZ12.out; have s13 := HSZ13.out; have s14 := HSZ14.out; have s15 := HSZ15.out; omega) | exact Or.inr (by have s0 := HSZ0.out; have s1 := HSZ1.out; have s2 := HSZ2.out; have s3 := HSZ3.out; have s4 := HSZ4.out; have s5 := HSZ5.out; have s6 := HSZ6.out; have s7 := HSZ7.out; have s8 := HSZ8.out; have s9 := HSZ9.out; have s10 := HSZ10.out; have s11 := HSZ11.out; have s12 := HSZ12.out; have s13 := HSZ13.out; have s14 := HSZ14.out; have s15 := HSZ15.out; omega)) bG_1
      replace bG_2 := Mk.cell hb (by first | exact Or.inl (by have s0 := HSZ0.out; have s1 := HSZ1.out; have s2 := HSZ2.out; have s3 := HSZ3.out; have s4 := HSZ4.out; have s5 := HSZ5.out; have s6 := HSZ6.out; have s7 := HSZ7.out; have s8 := HSZ8.out; have s9 := HSZ9.out; have s10 := HSZ10.out; have s11 := HSZ11.out; have s12 := HSZ12.out; have s13 := HSZ13.out; have s14 := HSZ14.out; have s15 := HSZ15.out; omega) | exact Or.inr (by have s0 := HSZ0.out; have s1 := HSZ1.out; have s2 := HSZ2.out; have s3 := HSZ3.out; have s4 := HSZ4.out; have s5 := HSZ5.out; have s6 := HSZ6.out; have s7 := HSZ7.out; have s8 := HSZ8.out; have s9 := HSZ9.out; have s10 := HSZ10.out; have s11 := HSZ11.out; have s12 := HSZ12.out; have s13 := HSZ13.out; have s14 := HSZ14.out; have s15 := HSZ15.out; omega)) bG_2
      have HF := Lib.hid (Mk.fresh_of HF.out hb (by have s0 := HSZ0.out; have s1 := HSZ1.out; have s2 := HSZ2.out; have s3 := HSZ3.out; have s4 := HSZ4.out; have s5 := HSZ5.out; have s6 := HSZ6.out; have s7 := HSZ7.out; have s8 := HSZ8.out; have s9 := HSZ9.out; have s10 := HSZ10.out; have s11 := HSZ11.out; have s12 := HSZ12.out; have s13 := HSZ13.out; have s14 := HSZ14.out; have s15 := HSZ15.out; omega))
      replace HRW := Lib.hid (HRW.out.mk hb (by first | exact Or.inl (by have s0 := HSZ0.out; have s1 := HSZ1.out; have s2 := HSZ2.out; have s3 := HSZ3.out; have s4 := HSZ4.out; have s5 := HSZ5.out; have s6 := HSZ6.out; have s7 := HSZ7.out; have s8 := HSZ8.out; have s9 := HSZ9.out; have s10 := HSZ10.out; have s11 := HSZ11.out; have s12 := HSZ12.out; have s13 := HSZ13.out; have s14 := HSZ14.out; have s15 := HSZ15.out; omega) | exact Or.inr (by have s0 := HSZ0.out; have s1 := HSZ1.out; have s2 := HSZ2.out; have s3 := HSZ3.out; have s4 := HSZ4.out; have s5 := HSZ5.out; have s6 := HSZ6.out; have s7 := HSZ7.out; have s8 := HSZ8.out; have s9 := HSZ9.out; have s10 := HSZ10.out; have s11 := HSZ11.out; have s12 := HSZ12.out; have s13 := HSZ13.out; have s14 := HSZ14.out; have s15 := HSZ15.out; omega)))
      replace HM2 := Lib.hid (HM2.out.mk (by decide) hb)
      replace HRWG := Lib.hid (hb.row _ _ _ HRWG.out (by decide))
      replace HRG := Lib.hid (HRG.out.mk hb (by first | exact Or.inl (by have s0 := HSZ0.out; have s1 := HSZ1.out; have s2 := HSZ2.out; have s3 := HSZ3.out; have s4 := HSZ4.out; have s5 := HSZ5.out; have s6 := HSZ6.out; have s7 := HSZ7.out; have s8 := HSZ8.out; have s9 := HSZ9.out; have s10 := HSZ10.out; have s11 := HSZ11.out; have s12 := HSZ12.out; have s13 := HSZ13.out; have s14 := HSZ14.out; have s15 := HSZ15.out; omega) | exact Or.inr (by have s0 := HSZ0.out; have s1 := HSZ1.out; have s2 := HSZ2.out; have s3 := HSZ3.out; have s4 := HSZ4.out; have s5 := HSZ5.out; have s6 := HSZ6.out; have s7 := HSZ7.out; have s8 := HSZ8.out; have s9 := HSZ9.out; have s10 := HSZ10.out; have s11 := HSZ11.out; have s12 := HSZ12.out; have s13 := HSZ13.out; have s14 := HSZ14.out; have s15 := HSZ15.out; omega)))
      clear hb
      go_wp2_with fail
      refine (markRoute_k _ (Xx0.heap.size) (w4.heap.size) k0 _ HM2.out (by have s0 := HSZ0.out; have s1 := HSZ1.out; have s2 := HSZ2.out; have s3 := HSZ3.out; have s4 := HSZ4.out; have s5 := HSZ5.out; have s6 := HSZ6.out; have s7 := HSZ7.out; have s8 := HSZ8.out; have s9 := HSZ9.out; have s10 := HSZ10.out; have s11 := HSZ11.out; have s12 := HSZ12.out; have s13 := HSZ13.out; have s14 := HSZ14.out; have s15 := HSZ15.out; omega) (by have s0 := HSZ0.out; have s1 := HSZ1.out; have s2 := HSZ2.out; have s3 := HSZ3.out; have s4 := HSZ4.out; have s5 := HSZ5.out; have s6 := HSZ6.out; have s7 := HSZ7.out; have s8 := HSZ8.out; have s9 := HSZ9.out; have s10 := HSZ10.out; have s11 := HSZ11.out; have s12 := HSZ12.out; have s13 := HSZ13.out; have s14 := HSZ14.out; have s15 := HSZ15.out; omega) (by omega) (by omega)).mono ?_
      rintro e w11 ⟨k2, rfl, hka2, hkb2, hb⟩
      clear HM2
      replace hkb2 : k2 ≤ k0 + 17592186044416 := hkb2
      have HSZ16 := Lib.hid (hb.low.size)
      replace a0_0 := Mk.cell hb (by first | exact Or.inl (by have s0 := HSZ0.out; have s1 := HSZ1.out; have s2 := HSZ2.out; have s3 := HSZ3.out; have s4 := HSZ4.out; have s5 := HSZ5.out; have s6 := HSZ6.out; have s7 := HSZ7.out; have s8 := HSZ8.out; have s9 := HSZ9.out; have s10 := HSZ10.out; have s11 := HSZ11.out; have s12 := HSZ12.out; have s13 := HSZ13.out; have s14 := HSZ14.out; have s15 := HSZ15.out; have s16 := HSZ16.out; omega) | exact Or.inr (by have s0 := HSZ0.out; have s1 := HSZ1.out; have s2 := HSZ2.out; have s3 := HSZ3.out; have s4 := HSZ4.out; have s5 := HSZ5.out; have s6 := HSZ6.out; have s7 := HSZ7.out; have s8 := HSZ8.out; have s9 := HSZ9.out; have s10 := HSZ10.out; have s11 := HSZ11.out; have s12 := HSZ12.out; have s13 := HSZ13.out; have s14 := HSZ14.out; have s15 := HSZ15.out; have s16 := HSZ16.out; omega)) a0_0
      replace a0_1 := Mk.cell hb (by first | exact Or.inl (by have s0 := HSZ0.out; have s1 := HSZ1.out; have s2 := HSZ2.out; have s3 := HSZ3.out; have s4 := HSZ4.out; have s5 := HSZ5.out; have s6 := HSZ6.out; have s7 := HSZ7.out; have s8 := HSZ8.out; have s9 := HSZ9.out; have s10 := HSZ10.out; have s11 := HSZ11.out; have s12 := HSZ12.out; have s13 := HSZ13.out; have s14 := HSZ14.out; have s15 := HSZ15.out; have s16 := HSZ16.out; omega) | exact Or.inr (by have s0 := HSZ0.out; have s1 := HSZ1.out; have s2 := HSZ2.out; have s3 := HSZ3.out; have s4 := HSZ4.out; have s5 := HSZ5.out; have s6 := HSZ6.out; have s7 := HSZ7.out; have s8 := HSZ8.out; have s9 := HSZ9.out; have s10 := HSZ10.out; have s11 := HSZ11.out; have s12 := HSZ12.out; have s13 := HSZ13.out; have s14 := HSZ14.out; have s15 := HSZ15.out; have s16 := HSZ16.out; omega)) a0_1
      replace a0_2 := Mk.cell hb (by first | exact Or.inl (by have s0 := HSZ0.out; have s1 := HSZ1.out; have s2 := HSZ2.out; have s3 := HSZ3.out; have s4 := HSZ4.out; have s5 := HSZ5.out; have s6 := HSZ6.out; have s7 := HSZ7.out; have s8 := HSZ8.out; have s9 := HSZ9.out; have s10 := HSZ10.out; have s11 := HSZ11.out; have s12 := HSZ12.out; have s13 := HSZ13.out; have s14 := HSZ14.out; have s15 := HSZ15.out; have s16 := HSZ16.out; omega) | exact Or.inr (by have s0 := HSZ0.out; have s1 := HSZ1.out; have s2 := HSZ2.out; have s3 := HSZ3.out; have s4 := HSZ4.out; have s5 := HSZ5.out; have s6 := HSZ6.out; have s7 := HSZ7.out; have s8 := HSZ8.out; have s9 := HSZ9.out; have s10 := HSZ10.out; have s11 := HSZ11.out; have s12 := HSZ12.out; have s13 := HSZ13.out; have s14 := HSZ14.out; have s15 := HSZ15.out; have s16 := HSZ16.out; omega)) a0_2
      replace a2_0 := Mk.cell hb (by first | exact Or.inl (by have s0 := HSZ0.out; have s1 := HSZ1.out; have s2 := HSZ2.out; have s3 := HSZ3.out; have s4 := HSZ4.out; have s5 := HSZ5.out; have s6 := HSZ6.out; have s7 := HSZ7.out; have s8 := HSZ8.out; have s9 := HSZ9.out; have s10 := HSZ10.out; have s11 := HSZ11.out; have s12 := HSZ12.out; have s13 := HSZ13.out; have s14 := HSZ14.out; have s15 := HSZ15.out; have s16 := HSZ16.out; omega) | exact Or.inr (by have s0 := HSZ0.out; have s1 := HSZ1.out; have s2 := HSZ2.out; have s3 := HSZ3.out; have s4 := HSZ4.out; have s5 := HSZ5.out; have s6 := HSZ6.out; have s7 := HSZ7.out; have s8 := HSZ8.out; have s9 := HSZ9.out; have s10 := HSZ10.out; have s11 := HSZ11.out; have s12 := HSZ12.out; have s13 := HSZ13.out; have s14 := HSZ14.out; have s15 := HSZ15.out; have s16 := HSZ16.out; omega)) a2_0
      replace a2_1 := Mk.cell hb (by first | exact Or.inl (by have s0 := HSZ0.out; have s1 := HSZ1.out; have s2 := HSZ2.out; have s3 := HSZ3.out; have s4 := HSZ4.out; have s5 := HSZ5.out; have s6 := HSZ6.out; have s7 := HSZ7.out; have s8 := HSZ8.out; have s9 := HSZ9.out; have s10 := HSZ10.out; have s11 := HSZ11.out; have s12 := HSZ12.out; have s13 := HSZ13.out; have s14 := HSZ14.out; have s15 := HSZ15.out; have s16 := HSZ16.out; omega) | exact Or.inr (by have s0 := HSZ0.out; have s1 := HSZ1.out; have s2 := HSZ2.out; have s3 := HSZ3.out; have s4 := HSZ4.out; have s5 := HSZ5.out; have s6 := HSZ6.out; have s7 := HSZ7.out; have s8 := HSZ8.out; have s9 := HSZ9.out; have s10 := HSZ10.out; have s11 := HSZ11.out; have s12 := HSZ12.out; have s13 := HSZ13.out; have s14 := HSZ14.out; have s15 := HSZ15.out; have s16 := HSZ16.out; omega)) a2_1
      replace a3_0 := Mk.cell hb (by first | exact Or.inl (by have s0 := HSZ0.out; have s1 := HSZ1.out; have s2 := HSZ2.out; have s3 := HSZ3.out; have s4 := HSZ4.out; have s5 := HSZ5.out; have s6 := HSZ6.out; have s7 := HSZ7.out; have s8 := HSZ8.out; have s9 := HSZ9.out; have s10 := HSZ10.out; have s11 := HSZ11.out; have s12 := HSZ12.out; have s13 := HSZ13.out; have s14 := HSZ14.out; have s15 := HSZ15.out; have s16 := HSZ16.out; omega) | exact Or.inr (by have s0 := HSZ0.out; have s1 := HSZ1.out; have s2 := HSZ2.out; have s3 := HSZ3.out; have s4 := HSZ4.out; have s5 := HSZ5.out; have s6 := HSZ6.out; have s7 := HSZ7.out; have s8 := HSZ8.out; have s9 := HSZ9.out; have s10 := HSZ10.out; have s11 := HSZ11.out; have s12 := HSZ12.out; have s13 := HSZ13.out; have s14 := HSZ14.out; have s15 := HSZ15.out; have s16 := HSZ16.out; omega)) a3_0
      replace a3_1 := Mk.cell hb (by first | exact Or.inl (by have s0 := HSZ0.out; have s1 := HSZ1.out; have s2 := HSZ2.out; have s3 := HSZ3.out; have s4 := HSZ4.out; have s5 := HSZ5.out; have s6 := HSZ6.out; have s7 := HSZ7.out; have s8 := HSZ8.out; have s9 := HSZ9.out; have s10 := HSZ10.out; have s11 := HSZ11.out; have s12 := HSZ12.out; have s13 := HSZ13.out; have s14 := HSZ14.out; have s15 := HSZ15.out; have s16 := HSZ16.out; omega) | exact Or.inr (by have s0 := HSZ0.out; have s1 := HSZ1.out; have s2 := HSZ2.out; have s3 := HSZ3.out; have s4 := HSZ4.out; have s5 := HSZ5.out; have s6 := HSZ6.out; have s7 := HSZ7.out; have s8 := HSZ8.out; have s9 := HSZ9.out; have s10 := HSZ10.out; have s11 := HSZ11.out; have s12 := HSZ12.out; have s13 := HSZ13.out; have s14 := HSZ14.out; have s15 := HSZ15.out; have s16 := HSZ16.out; omega)) a3_1
      replace bW_0 := Mk.cell hb (by first | exact Or.inl (by have s0 := HSZ0.out; have s1 := HSZ1.out; have s2 := HSZ2.out; have s3 := HSZ3.out; have s4 := HSZ4.out; have s5 := HSZ5.out; have s6 := HSZ6.out; have s7 := HSZ7.out; have s8 := HSZ8.out; have s9 := HSZ9.out; have s10 := HSZ10.out; have s11 := HSZ11.out; have s12 := HSZ12.out; have s13 := HSZ13.out; have s14 := HSZ14.out; have s15 := HSZ15.out; have s16 := HSZ16.out; omega) | exact Or.inr (by have s0 := HSZ0.out; have s1 := HSZ1.out; have s2 := HSZ2.out; have s3 := HSZ3.out; have s4 := HSZ4.out; have s5 := HSZ5.out; have s6 := HSZ6.out; have s7 := HSZ7.out; have s8 := HSZ8.out; have s9 := HSZ9.out; have s10 := HSZ10.out; have s11 := HSZ11.out; have s12 := HSZ12.out; have s13 := HSZ13.out; have s14 := HSZ14.out; have s15 := HSZ15.out; have s16 := HSZ16.out; omega)) bW_0
      replace bW_1 := Mk.cell hb (by first | exact Or.inl (by have s0 := HSZ0.out; have s1 := HSZ1.out; have s2 := HSZ2.out; have s3 := HSZ3.out; have s4 := HSZ4.out; have s5 := HSZ5.out; have s6 := HSZ6.out; have s7 := HSZ7.out; have s8 := HSZ8.out; have s9 := HSZ9.out; have s10 := HSZ10.out; have s11 := HSZ11.out; have s12 := HSZ12.out; have s13 := HSZ13.out; have s14 := HSZ14.out; have s15 := HSZ15.out; have s16 := HSZ16.out; omega) | exact Or.inr (by have s0 := HSZ0.out; have s1 := HSZ1.out; have s2 := HSZ2.out; have s3 := HSZ3.out; have s4 := HSZ4.out; have s5 := HSZ5.out; have s6 := HSZ6.out; have s7 := HSZ7.out; have s8 := HSZ8.out; have s9 := HSZ9.out; have s10 := HSZ10.out; have s11 := HSZ11.out; have s12 := HSZ12.out; have s13 := HSZ13.out; have s14 := HSZ14.out; have s15 := HSZ15.out; have s16 := HSZ16.out; omega)) bW_1
      replace bW_2 := Mk.cell hb (by first | exact Or.inl (by have s0 := HSZ0.out; have s1 := HSZ1.out; have s2 := HSZ2.out; have s3 := HSZ3.out; have s4 := HSZ4.out; have s5 := HSZ5.out; have s6 := HSZ6.out; have s7 := HSZ7.out; have s8 := HSZ8.out; have s9 := HSZ9.out; have s10 := HSZ10.out; have s11 := HSZ11.out; have s12 := HSZ12.out; have s13 := HSZ13.out; have s14 := HSZ14.out; have s15 := HSZ15.out; have s16 := HSZ16.out; omega) | exact Or.inr (by have s0 := HSZ0.out; have s1 := HSZ1.out; have s2 := HSZ2.out; have s3 := HSZ3.out; have s4 := HSZ4.out; have s5 := HSZ5.out; have s6 := HSZ6.out; have s7 := HSZ7.out; have s8 := HSZ8.out; have s9 := HSZ9.out; have s10 := HSZ10.out; have s11 := HSZ11.out; have s12 := HSZ12.out; have s13 := HSZ13.out; have s14 := HSZ14.out; have s15 := HSZ15.out; have s16 := HSZ16.out; omega)) bW_2
      replace c0_0 := Mk.cell hb (by first | exact Or.inl (by have s0 := HSZ0.out; have s1 := HSZ1.out; have s2 := HSZ2.out; have s3 := HSZ3.out; have s4 := HSZ4.out; have s5 := HSZ5.out; have s6 := HSZ6.out; have s7 := HSZ7.out; have s8 := HSZ8.out; have s9 := HSZ9.out; have s10 := HSZ10.out; have s11 := HSZ11.out; have s12 := HSZ12.out; have s13 := HSZ13.out; have s14 := HSZ14.out; have s15 := HSZ15.out; have s16 := HSZ16.out; omega) | exact Or.inr (by have s0 := HSZ0.out; have s1 := HSZ1.out; have s2 := HSZ2.out; have s3 := HSZ3.out; have s4 := HSZ4.out; have s5 := HSZ5.out; have s6 := HSZ6.out; have s7 := HSZ7.out; have s8 := HSZ8.out; have s9 := HSZ9.out; have s10 := HSZ10.out; have s11 := HSZ11.out; have s12 := HSZ12.out; have s13 := HSZ13.out; have s14 := HSZ14.out; have s15 := HSZ15.out; have s16 := HSZ16.out; omega)) c0_0
      replace c0_1 := Mk.cell hb (by first | exact Or.inl (by have s0 := HSZ0.out; have s1 := HSZ1.out; have s2 := HSZ2.out; have s3 := HSZ3.out; have s4 := HSZ4.out; have s5 := HSZ5.out; have s6 := HSZ6.out; have s7 := HSZ7.out; have s8 := HSZ8.out; have s9 := HSZ9.out; have s10 := HSZ10.out; have s11 := HSZ11.out; have s12 := HSZ12.out; have s13 := HSZ13.out; have s14 := HSZ14.out; have s15 := HSZ15.out; have s16 := HSZ16.out; omega) | exact Or.inr (by have s0 := HSZ0.out; have s1 := HSZ1.out; have s2 := HSZ2.out; have s3 := HSZ3.out; have s4 := HSZ4.out; have s5 := HSZ5.out; have s6 := HSZ6.out; have s7 := HSZ7.out; have s8 := HSZ8.out; have s9 := HSZ9.out; have s10 := HSZ10.out; have s11 := HSZ11.out; have s12 := HSZ12.out; have s13 := HSZ13.out; have s14 := HSZ14.out; have s15 := HSZ15.out; have s16 := HSZ16.out; omega)) c0_1
      replace c0_2 := Mk.cell hb (by first | exact Or.inl (by have s0 := HSZ0.out; have s1 := HSZ1.out; have s2 := HSZ2.out; have s3 := HSZ3.out; have s4 := HSZ4.out; have s5 := HSZ5.out; have s6 := HSZ6.out; have s7 := HSZ7.out; have s8 := HSZ8.out; have s9 := HSZ9.out; have s10 := HSZ10.out; have s11 := HSZ11.out; have s12 := HSZ12.out; have s13 := HSZ13.out; have s14 := HSZ14.out; have s15 := HSZ15.out; have s16 := HSZ16.out; omega) | exact Or.inr (by have s0 := HSZ0.out; have s1 := HSZ1.out; have s2 := HSZ2.out; have s3 := HSZ3.out; have s4 := HSZ4.out; have s5 := HSZ5.out; have s6 := HSZ6.out; have s7 := HSZ7.out; have s8 := HSZ8.out; have s9 := HSZ9.out; have s10 := HSZ10.out; have s11 := HSZ11.out; have s12 := HSZ12.out; have s13 := HSZ13.out; have s14 := HSZ14.out; have s15 := HSZ15.out; have s16 := HSZ16.out; omega)) c0_2
      replace c2_0 := Mk.cell hb (by first | exact Or.inl (by have s0 := HSZ0.out; have s1 := HSZ1.out; have s2 := HSZ2.out; have s3 := HSZ3.out; have s4 := HSZ4.out; have s5 := HSZ5.out; have s6 := HSZ6.out; have s7 := HSZ7.out; have s8 := HSZ8.out; have s9 := HSZ9.out; have s10 := HSZ10.out; have s11 := HSZ11.out; have s12 := HSZ12.out; have s13 := HSZ13.out; have s14 := HSZ14.out; have s15 := HSZ15.out; have s16 := HSZ16.out; omega) | exact Or.inr (by have s0 := HSZ0.out; have s1 := HSZ1.out; have s2 := HSZ2.out; have s3 := HSZ3.out; have s4 := HSZ4.out; have s5 := HSZ5.out; have s6 := HSZ6.out; have s7 := HSZ7.out; have s8 := HSZ8.out; have s9 := HSZ9.out; have s10 := HSZ10.out; have s11 := HSZ11.out; have s12 := HSZ12.out; have s13 := HSZ13.out; have s14 := HSZ14.out; have s15 := HSZ15.out; have s16 := HSZ16.out; omega)) c2_0
      replace c2_1 := Mk.cell hb (by first | exact Or.inl (by have s0 := HSZ0.out; have s1 := HSZ1.out; have s2 := HSZ2.out; have s3 := HSZ3.out; have s4 := HSZ4.out; have s5 := HSZ5.out; have s6 := HSZ6.out; have s7 := HSZ7.out; have s8 := HSZ8.out; have s9 := HSZ9.out; have s10 := HSZ10.out; have s11 := HSZ11.out; have s12 := HSZ12.out; have s13 := HSZ13.out; have s14 := HSZ14.out; have s15 := HSZ15.out; have s16 := HSZ16.out; omega) | exact Or.inr (by have s0 := HSZ0.out; have s1 := HSZ1.out; have s2 := HSZ2.out; have s3 := HSZ3.out; have s4 := HSZ4.out; have s5 := HSZ5.out; have s6 := HSZ6.out; have s7 := HSZ7.out; have s8 := HSZ8.out; have s9 := HSZ9.out; have s10 := HSZ10.out; have s11 := HSZ11.out; have s12 := HSZ12.out; have s13 := HSZ13.out; have s14 := HSZ14.out; have s15 := HSZ15.out; have s16 := HSZ16.out; omega)) c2_1
      replace bG_0 := Mk.cell hb (by first | exact Or.inl (by have s0 := HSZ0.out; have s1 := HSZ1.out; have s2 := HSZ2.out; have s3 := HSZ3.out; have s4 := HSZ4.out; have s5 := HSZ5.out; have s6 := HSZ6.out; have s7 := HSZ7.out; have s8 := HSZ8.out; have s9 := HSZ9.out; have s10 := HSZ10.out; have s11 := HSZ11.out; have s12 := HSZ12.out; have s13 := HSZ13.out; have s14 := HSZ14.out; have s15 := HSZ15.out; have s16 := HSZ16.out; omega) | exact Or.inr (by have s0 := HSZ0.out; have s1 := HSZ1.out; have s2 := HSZ2.out; have s3 := HSZ3.out; have s4 := HSZ4.out; have s5 := HSZ5.out; have s6 := HSZ6.out; have s7 := HSZ7.out; have s8 := HSZ8.out; have s9 := HSZ9.out; have s10 := HSZ10.out; have s11 := HSZ11.out; have s12 := HSZ12.out; have s13 := HSZ13.out; have s14 := HSZ14.out; have s15 := HSZ15.out; have s16 := HSZ16.out; omega)) bG_0
      replace bG_1 := Mk.cell hb (by first | exact Or.inl (by have s0 := HSZ0.out; have s1 := HSZ1.out; have s2 := HSZ2.out; have s3 := HSZ3.out; have s4 := HSZ4.out; have s5 := HSZ5.out; have s6 := HSZ6.out; have s7 := HSZ7.out; have s8 := HSZ8.out; have s9 := HSZ9.out; have s10 := HSZ10.out; have s11 := HSZ11.out; have s12 := HSZ12.out; have s13 := HSZ13.out; have s14 := HSZ14.out; have s15 := HSZ15.out; have s16 := HSZ16.out; omega) | exact Or.inr (by have s0 := HSZ0.out; have s1 := HSZ1.out; have s2 := HSZ2.out; have s3 := HSZ3.out; have s4 := HSZ4.out; have s5 := HSZ5.out; have s6 := HSZ6.out; have s7 := HSZ7.out; have s8 := HSZ8.out; have s9 := HSZ9.out; have s10 := HSZ10.out; have s11 := HSZ11.out; have s12 := HSZ12.out; have s13 := HSZ13.out; have s14 := HSZ14.out; have s15 := HSZ15.out; have s16 := HSZ16.out; omega)) bG_1
      replace bG_2 := Mk.cell hb (by first | exact Or.inl (by have s0 := HSZ0.out; have s1 := HSZ1.out; have s2 := HSZ2.out; have s3 := HSZ3.out; have s4 := HSZ4.out; have s5 := HSZ5.out; have s6 := HSZ6.out; have s7 := HSZ7.out; have s8 := HSZ8.out; have s9 := HSZ9.out; have s10 := HSZ10.out; have s11 := HSZ11.out; have s12 := HSZ12.out; have s13 := HSZ13.out; have s14 := HSZ14.out; have s15 := HSZ15.out; have s16 := HSZ16.out; omega) | exact Or.inr (by have s0 := HSZ0.out; have s1 := HSZ1.out; have s2 := HSZ2.out; have s3 := HSZ3.out; have s4 := HSZ4.out; have s5 := HSZ5.out; have s6 := HSZ6.out; have s7 := HSZ7.out; have s8 := HSZ8.out; have s9 := HSZ9.out; have s10 := HSZ10.out; have s11 := HSZ11.out; have s12 := HSZ12.out; have s13 := HSZ13.out; have s14 := HSZ14.out; have s15 := HSZ15.out; have s16 := HSZ16.out; omega)) bG_2
      have HF := Lib.hid (Mk.fresh_of HF.out hb (by have s0 := HSZ0.out; have s1 := HSZ1.out; have s2 := HSZ2.out; have s3 := HSZ3.out; have s4 := HSZ4.out; have s5 := HSZ5.out; have s6 := HSZ6.out; have s7 := HSZ7.out; have s8 := HSZ8.out; have s9 := HSZ9.out; have s10 := HSZ10.out; have s11 := HSZ11.out; have s12 := HSZ12.out; have s13 := HSZ13.out; have s14 := HSZ14.out; have s15 := HSZ15.out; have s16 := HSZ16.out; omega))
      replace HRW := Lib.hid (HRW.out.mk hb (by first | exact Or.inl (by have s0 := HSZ0.out; have s1 := HSZ1.out; have s2 := HSZ2.out; have s3 := HSZ3.out; have s4 := HSZ4.out; have s5 := HSZ5.out; have s6 := HSZ6.out; have s7 := HSZ7.out; have s8 := HSZ8.out; have s9 := HSZ9.out; have s10 := HSZ10.out; have s11 := HSZ11.out; have s12 := HSZ12.out; have s13 := HSZ13.out; have s14 := HSZ14.out; have s15 := HSZ15.out; have s16 := HSZ16.out; omega) | exact Or.inr (by have s0 := HSZ0.out; have s1 := HSZ1.out; have s2 := HSZ2.out; have s3 := HSZ3.out; have s4 := HSZ4.out; have s5 := HSZ5.out; have s6 := HSZ6.out; have s7 := HSZ7.out; have s8 := HSZ8.out; have s9 := HSZ9.out; have s10 := HSZ10.out; have s11 := HSZ11.out; have s12 := HSZ12.out; have s13 := HSZ13.out; have s14 := HSZ14.out; have s15 := HSZ15.out; have s16 := HSZ16.out; omega)))
      replace HRWG := Lib.hid (hb.row _ _ _ HRWG.out (by decide))
      replace HRG := Lib.hid (HRG.out.mk hb (by first | exact Or.inl (by have s0 := HSZ0.out; have s1 := HSZ1.out; have s2 := HSZ2.out; have s3 := HSZ3.out; have s4 := HSZ4.out; have s5 := HSZ5.out; have s6 := HSZ6.out; have s7 := HSZ7.out; have s8 := HSZ8.out; have s9 := HSZ9.out; have s10 := HSZ10.out; have s11 := HSZ11.out; have s12 := HSZ12.out; have s13 := HSZ13.out; have s14 := HSZ14.out; have s15 := HSZ15.out; have s16 := HSZ16.out; omega) | exact Or.inr (by have s0 := HSZ0.out; have s1 := HSZ1.out; have s2 := HSZ2.out; have s3 := HSZ3.out; have s4 := HSZ4.out; have s5 := HSZ5.out; have s6 := HSZ6.out; have s7 := HSZ7.out; have s8 := HSZ8.out; have s9 := HSZ9.out; have s10 := HSZ10.out; have s11 := HSZ11.out; have s12 := HSZ12.out; have s13 := HSZ13.out; have s14 := HSZ14.out; have s15 := HSZ15.out; have s16 := HSZ16.out; omega)))
      clear hb
      clear c0_0 c0_1 c0_2 c2_0 c2_1
      have hkn : (k2 < 0) = False := eq_false (by omega)
      go_wp2_with fail
      refine (eqPl_r _ _ _ _ _ _ r0 _ (HRG.out) (HRW.out) HSM.out).mono ?_
      rintro e w12 ⟨rfl, hb⟩
      have HSZ17 := Lib.hid (hb.size)
      replace a0_0 := fkeep hb a0_0
      replace a0_1 := fkeep hb a0_1
      replace a0_2 := fkeep hb a0_2
      replace a2_0 := fkeep hb a2_0
      replace a2_1 := fkeep hb a2_1
      replace a3_0 := fkeep hb a3_0
      replace a3_1 := fkeep hb a3_1
      replace bW_0 := fkeep hb bW_0
      replace bW_1 := fkeep hb bW_1
      replace bW_2 := fkeep hb bW_2
      replace bG_0 := fkeep hb bG_0
      replace bG_1 := fkeep hb bG_1
      replace bG_2 := fkeep hb bG_2
      have HF := Lib.hid (fstep HF.out hb)
      replace HRW := Lib.hid (HRW.out.keep hb)
      replace HRWG := Lib.hid (HRWG.out.keep hb)
      replace HRG := Lib.hid (HRG.out.keep hb)
      clear hb
      clear hkn hka0 hkb0 hka2 hkb2
      go_wp2_with fail
      refine (markPl_r _ (Xx2.heap.size) r0 1 _ HRG.out.own (by have s0 := HSZ0.out; have s1 := HSZ1.out; have s2 := HSZ2.out; have s3 := HSZ3.out; have s4 := HSZ4.out; have s5 := HSZ5.out; have s6 := HSZ6.out; have s7 := HSZ7.out; have s8 := HSZ8.out; have s9 := HSZ9.out; have s10 := HSZ10.out; have s11 := HSZ11.out; have s12 := HSZ12.out; have s13 := HSZ13.out; have s14 := HSZ14.out; have s15 := HSZ15.out; have s16 := HSZ16.out; have s17 := HSZ17.out; omega) HSM.out (by omega) (by omega)).mono ?_
      rintro e w13 ⟨N, rfl, ho, hb, hkk⟩
      have HG := Lib.hid ho
      clear ho HRG
      have HSZ18 := Lib.hid (hb.size)
      replace a0_0 := bkeep hb (by have s0 := HSZ0.out; have s1 := HSZ1.out; have s2 := HSZ2.out; have s3 := HSZ3.out; have s4 := HSZ4.out; have s5 := HSZ5.out; have s6 := HSZ6.out; have s7 := HSZ7.out; have s8 := HSZ8.out; have s9 := HSZ9.out; have s10 := HSZ10.out; have s11 := HSZ11.out; have s12 := HSZ12.out; have s13 := HSZ13.out; have s14 := HSZ14.out; have s15 := HSZ15.out; have s16 := HSZ16.out; have s17 := HSZ17.out; have s18 := HSZ18.out; omega) a0_0
      replace a0_1 := bkeep hb (by have s0 := HSZ0.out; have s1 := HSZ1.out; have s2 := HSZ2.out; have s3 := HSZ3.out; have s4 := HSZ4.out; have s5 := HSZ5.out; have s6 := HSZ6.out; have s7 := HSZ7.out; have s8 := HSZ8.out; have s9 := HSZ9.out; have s10 := HSZ10.out; have s11 := HSZ11.out; have s12 := HSZ12.out; have s13 := HSZ13.out; have s14 := HSZ14.out; have s15 := HSZ15.out; have s16 := HSZ16.out; have s17 := HSZ17.out; have s18 := HSZ18.out; omega) a0_1
      replace a0_2 := bkeep hb (by have s0 := HSZ0.out; have s1 := HSZ1.out; have s2 := HSZ2.out; have s3 := HSZ3.out; have s4 := HSZ4.out; have s5 := HSZ5.out; have s6 := HSZ6.out; have s7 := HSZ7.out; have s8 := HSZ8.out; have s9 := HSZ9.out; have s10 := HSZ10.out; have s11 := HSZ11.out; have s12 := HSZ12.out; have s13 := HSZ13.out; have s14 := HSZ14.out; have s15 := HSZ15.out; have s16 := HSZ16.out; have s17 := HSZ17.out; have s18 := HSZ18.out; omega) a0_2
      replace a2_0 := bkeep hb (by have s0 := HSZ0.out; have s1 := HSZ1.out; have s2 := HSZ2.out; have s3 := HSZ3.out; have s4 := HSZ4.out; have s5 := HSZ5.out; have s6 := HSZ6.out; have s7 := HSZ7.out; have s8 := HSZ8.out; have s9 := HSZ9.out; have s10 := HSZ10.out; have s11 := HSZ11.out; have s12 := HSZ12.out; have s13 := HSZ13.out; have s14 := HSZ14.out; have s15 := HSZ15.out; have s16 := HSZ16.out; have s17 := HSZ17.out; have s18 := HSZ18.out; omega) a2_0
      replace a2_1 := bkeep hb (by have s0 := HSZ0.out; have s1 := HSZ1.out; have s2 := HSZ2.out; have s3 := HSZ3.out; have s4 := HSZ4.out; have s5 := HSZ5.out; have s6 := HSZ6.out; have s7 := HSZ7.out; have s8 := HSZ8.out; have s9 := HSZ9.out; have s10 := HSZ10.out; have s11 := HSZ11.out; have s12 := HSZ12.out; have s13 := HSZ13.out; have s14 := HSZ14.out; have s15 := HSZ15.out; have s16 := HSZ16.out; have s17 := HSZ17.out; have s18 := HSZ18.out; omega) a2_1
      replace a3_0 := bkeep hb (by have s0 := HSZ0.out; have s1 := HSZ1.out; have s2 := HSZ2.out; have s3 := HSZ3.out; have s4 := HSZ4.out; have s5 := HSZ5.out; have s6 := HSZ6.out; have s7 := HSZ7.out; have s8 := HSZ8.out; have s9 := HSZ9.out; have s10 := HSZ10.out; have s11 := HSZ11.out; have s12 := HSZ12.out; have s13 := HSZ13.out; have s14 := HSZ14.out; have s15 := HSZ15.out; have s16 := HSZ16.out; have s17 := HSZ17.out; have s18 := HSZ18.out; omega) a3_0
      replace a3_1 := bkeep hb (by have s0 := HSZ0.out; have s1 := HSZ1.out; have s2 := HSZ2.out; have s3 := HSZ3.out; have s4 := HSZ4.out; have s5 := HSZ5.out; have s6 := HSZ6.out; have s7 := HSZ7.out; have s8 := HSZ8.out; have s9 := HSZ9.out; have s10 := HSZ10.out; have s11 := HSZ11.out; have s12 := HSZ12.out; have s13 := HSZ13.out; have s14 := HSZ14.out; have s15 := HSZ15.out; have s16 := HSZ16.out; have s17 := HSZ17.out; have s18 := HSZ18.out; omega) a3_1
      replace bW_0 := bkeep hb (by have s0 := HSZ0.out; have s1 := HSZ1.out; have s2 := HSZ2.out; have s3 := HSZ3.out; have s4 := HSZ4.out; have s5 := HSZ5.out; have s6 := HSZ6.out; have s7 := HSZ7.out; have s8 := HSZ8.out; have s9 := HSZ9.out; have s10 := HSZ10.out; have s11 := HSZ11.out; have s12 := HSZ12.out; have s13 := HSZ13.out; have s14 := HSZ14.out; have s15 := HSZ15.out; have s16 := HSZ16.out; have s17 := HSZ17.out; have s18 := HSZ18.out; omega) bW_0
      replace bW_1 := bkeep hb (by have s0 := HSZ0.out; have s1 := HSZ1.out; have s2 := HSZ2.out; have s3 := HSZ3.out; have s4 := HSZ4.out; have s5 := HSZ5.out; have s6 := HSZ6.out; have s7 := HSZ7.out; have s8 := HSZ8.out; have s9 := HSZ9.out; have s10 := HSZ10.out; have s11 := HSZ11.out; have s12 := HSZ12.out; have s13 := HSZ13.out; have s14 := HSZ14.out; have s15 := HSZ15.out; have s16 := HSZ16.out; have s17 := HSZ17.out; have s18 := HSZ18.out; omega) bW_1
      replace bW_2 := bkeep hb (by have s0 := HSZ0.out; have s1 := HSZ1.out; have s2 := HSZ2.out; have s3 := HSZ3.out; have s4 := HSZ4.out; have s5 := HSZ5.out; have s6 := HSZ6.out; have s7 := HSZ7.out; have s8 := HSZ8.out; have s9 := HSZ9.out; have s10 := HSZ10.out; have s11 := HSZ11.out; have s12 := HSZ12.out; have s13 := HSZ13.out; have s14 := HSZ14.out; have s15 := HSZ15.out; have s16 := HSZ16.out; have s17 := HSZ17.out; have s18 := HSZ18.out; omega) bW_2
      replace bG_0 := (hkk _ _ _ HRWG.out (by decide) (by decide) (by decide) (by decide) ).cell (i := 0) rfl
      replace bG_1 := (hkk _ _ _ HRWG.out (by decide) (by decide) (by decide) (by decide) ).cell (i := 1) rfl
      replace bG_2 := (hkk _ _ _ HRWG.out (by decide) (by decide) (by decide) (by decide) ).cell (i := 2) rfl
      have HF := Lib.hid (HF.out.trans (hb.mono (by have s0 := HSZ0.out; have s1 := HSZ1.out; have s2 := HSZ2.out; have s3 := HSZ3.out; have s4 := HSZ4.out; have s5 := HSZ5.out; have s6 := HSZ6.out; have s7 := HSZ7.out; have s8 := HSZ8.out; have s9 := HSZ9.out; have s10 := HSZ10.out; have s11 := HSZ11.out; have s12 := HSZ12.out; have s13 := HSZ13.out; have s14 := HSZ14.out; have s15 := HSZ15.out; have s16 := HSZ16.out; have s17 := HSZ17.out; have s18 := HSZ18.out; omega)))
      replace HRW := Lib.hid (HRW.out.below hb (by have s0 := HSZ0.out; have s1 := HSZ1.out; have s2 := HSZ2.out; have s3 := HSZ3.out; have s4 := HSZ4.out; have s5 := HSZ5.out; have s6 := HSZ6.out; have s7 := HSZ7.out; have s8 := HSZ8.out; have s9 := HSZ9.out; have s10 := HSZ10.out; have s11 := HSZ11.out; have s12 := HSZ12.out; have s13 := HSZ13.out; have s14 := HSZ14.out; have s15 := HSZ15.out; have s16 := HSZ16.out; have s17 := HSZ17.out; have s18 := HSZ18.out; omega))
      replace HRWG := Lib.hid (hkk _ _ _ HRWG.out (by decide) (by decide) (by decide) (by decide) )
      clear hb
      clear hkk HRWG
      go_wp2_with fail
      refine (heldPl_o _ _ r0 1 _ _ HG.out HSM.out (by omega) (by omega)).mono ?_
      rintro e w14 ⟨rfl, hb⟩
      have HSZ19 := Lib.hid (hb.size)
      replace a0_0 := fkeep hb a0_0
      replace a0_1 := fkeep hb a0_1
      replace a0_2 := fkeep hb a0_2
      replace a2_0 := fkeep hb a2_0
      replace a2_1 := fkeep hb a2_1
      replace a3_0 := fkeep hb a3_0
      replace a3_1 := fkeep hb a3_1
      replace bW_0 := fkeep hb bW_0
      replace bW_1 := fkeep hb bW_1
      replace bW_2 := fkeep hb bW_2
      replace bG_0 := fkeep hb bG_0
      replace bG_1 := fkeep hb bG_1
      replace bG_2 := fkeep hb bG_2
      have HF := Lib.hid (fstep HF.out hb)
      replace HRW := Lib.hid (HRW.out.keep hb)
      replace HG := Lib.hid (HG.out.keep hb)
      clear hb
      go_upto_region 31 with fail
      go_cut [19, 20] (fun z19 z20 wx => ∃ (gb : Nat) (qH : Option Addr) (mH : Nat) (cH : Nat) (fH : Option Addr) (kH : Nat) (dH : Nat) (tH : Option Addr) (iH : Nat) (eH : Nat), z19 = .pointer (some ⟨gb, 0, none⟩) ∧ z20 = .bool r1 ∧ RowAt wx gb 41 [.slice qH mH cH, .slice fH kH dH, .slice tH iH eH] ∧ PlHeld wx (0) wx.heap.size (.agg #[.slice qH mH cH, .slice fH kH dH, .slice tH iH eH]) r0 ∧ Fresh w14 wx ∧ w14.heap.size ≤ gb)
      case first =>
        refine hd_start (n := 13) (S := fun wz => wz.cell? ⟨w.heap.size, 0, none⟩ = some (.slice q0a m0a c0a) ∧ wz.cell? ⟨w.heap.size, 1, none⟩ = some (.slice p0a k0a d0a) ∧ wz.cell? ⟨w.heap.size, 2, none⟩ = some (.slice r0a i0a e0a) ∧ wz.cell? ⟨w.heap.size + 1, 0, none⟩ = some (.int .i64 s2a) ∧ wz.cell? ⟨w.heap.size + 1, 1, none⟩ = some (.slice q2a m2a c2a) ∧ wz.cell? ⟨w.heap.size + 1 + 1, 0, none⟩ = some (.int .i64 f3a) ∧ wz.cell? ⟨w.heap.size + 1 + 1, 1, none⟩ = some (.int .i64 n3a)) (by kernel_rfl) (by kernel_rfl) ⟨fkeep (fdrew (frefl _)) a0_0, fkeep (fdrew (frefl _)) a0_1, fkeep (fdrew (frefl _)) a0_2, fkeep (fdrew (frefl _)) a2_0, fkeep (fdrew (frefl _)) a2_1, fkeep (fdrew (frefl _)) a3_0, fkeep (fdrew (frefl _)) a3_1⟩ (fun hHeld => ?_)
        obtain ⟨Wz, hWz⟩ : ∃ W, W = w14.drew := ⟨_, rfl⟩
        rw [← hWz] at hHeld ⊢
        have f0 : Fresh w14 Wz := by rw [hWz]; exact fdrew (frefl _)
        clear hWz
        refine hd_take (i := 0) (v := ?_) rfl (by kernel_rfl) (by kernel_rfl) (by kernel_rfl) (by kernel_rfl) (fun _ _ _ h => h) (by assumption) (Or.inl ⟨by rfl, ?_⟩) ?_
        rotate_left
        · (intro w hSw; (try dsimp only at hSw); go_simp; first | done | with_reducible rfl)
        try simp only [Act.put, List.getElem_toArray, List.getElem_cons_succ, List.getElem_cons_zero, List.setIfInBounds_toArray, List.set_cons_zero, List.set_cons_succ]
        refine hd_take (i := 2) (v := ?_) rfl (by kernel_rfl) (by kernel_rfl) (by kernel_rfl) (by kernel_rfl) (fun _ _ _ h => h) (by assumption) (Or.inl ⟨by rfl, ?_⟩) ?_
        rotate_left
        · (intro w hSw; (try dsimp only at hSw); go_simp; first | done | with_reducible rfl)
        try simp only [Act.put, List.getElem_toArray, List.getElem_cons_succ, List.getElem_cons_zero, List.setIfInBounds_toArray, List.set_cons_zero, List.set_cons_succ]
        refine hd_take (i := 3) (v := ?_) rfl (by kernel_rfl) (by kernel_rfl) (by kernel_rfl) (by kernel_rfl) (fun _ _ _ h => h) (by assumption) (Or.inl ⟨by rfl, ?_⟩) ?_
        rotate_left
        · (intro w hSw; (try dsimp only at hSw); go_simp; first | done | with_reducible rfl)
        try simp only [Act.put, List.getElem_toArray, List.getElem_cons_succ, List.getElem_cons_zero, List.setIfInBounds_toArray, List.set_cons_zero, List.set_cons_succ]
        refine hd_take (i := 5) (v := ?_) rfl (by kernel_rfl) (by kernel_rfl) (by kernel_rfl) (by kernel_rfl) (fun _ _ _ h => h) (by assumption) (Or.inl ⟨by rfl, ?_⟩) ?_
        rotate_left
        · (intro w hSw; (try dsimp only at hSw); go_simp; first | done | with_reducible rfl)
        try simp only [Act.put, List.getElem_toArray, List.getElem_cons_succ, List.getElem_cons_zero, List.setIfInBounds_toArray, List.set_cons_zero, List.set_cons_succ]
        refine hd_ready (rs := [1, 11]) (by kernel_rfl) (by simp) ?_
        refine hd_cons (i := 1) rfl (by kernel_rfl) (fun K hK => ?_) ?_
        · skip
          go_simp
          go_at_call 9
          refine (toPlan_k _ x0 _ (HI0.out.keep (fstep HF.out f0))).mono ?_
          rintro e wk1 ⟨u0, rfl, hy0, hb0⟩
          have fk1 := fstep f0 hb0
          go_wp2_with fail
          refine hK.out _ _ ?_ (fun hHeld => ?_)
          · exact ⟨fkeep fk1 a0_0, fkeep fk1 a0_1, fkeep fk1 a0_2, fkeep fk1 a2_0, fkeep fk1 a2_1, fkeep fk1 a3_0, fkeep fk1 a3_1⟩
          clear hK K
          try simp only [Act.put, List.getElem_toArray, List.getElem_cons_succ, List.getElem_cons_zero, List.setIfInBounds_toArray, List.set_cons_zero, List.set_cons_succ]
          refine hd_ready (rs := [4, 11]) (by kernel_rfl) (by simp) ?_
          refine hd_cons (i := 4) rfl (by kernel_rfl) (fun K hK => ?_) ?_
          · skip
            go_simp
            go_at_call 10
            refine (toRoute_k _ x2 _ (HI2.out.keep (fstep HF.out fk1))).mono ?_
            rintro e wk2 ⟨u2, rfl, hy2, hb2⟩
            have fk2 := fstep fk1 hb2
            go_wp2_with fail
            refine hK.out _ _ ?_ (fun hHeld => ?_)
            · exact ⟨fkeep fk2 a0_0, fkeep fk2 a0_1, fkeep fk2 a0_2, fkeep fk2 a2_0, fkeep fk2 a2_1, fkeep fk2 a3_0, fkeep fk2 a3_1⟩
            clear hK K
            try simp only [Act.put, List.getElem_toArray, List.getElem_cons_succ, List.getElem_cons_zero, List.setIfInBounds_toArray, List.set_cons_zero, List.set_cons_succ]
            refine hd_ready (rs := [6, 11]) (by kernel_rfl) (by simp) ?_
            refine hd_cons (i := 6) rfl (by kernel_rfl) (fun K hK => ?_) ?_
            · skip
              go_simp
              go_at_call 11
              refine (toBlock_any f3a n3a _).mono ?_
              rintro e wk3 ⟨rfl, hb3⟩
              have fk3 := fstep fk2 hb3
              go_wp2_with fail
              refine hK.out _ _ ?_ (fun hHeld => ?_)
              · exact ⟨fkeep fk3 a0_0, fkeep fk3 a0_1, fkeep fk3 a0_2, fkeep fk3 a2_0, fkeep fk3 a2_1, fkeep fk3 a3_0, fkeep fk3 a3_1⟩
              clear hK K
              try simp only [Act.put, List.getElem_toArray, List.getElem_cons_succ, List.getElem_cons_zero, List.setIfInBounds_toArray, List.set_cons_zero, List.set_cons_succ]
              refine hd_ready (rs := [7, 11]) (by kernel_rfl) (by simp) ?_
              refine hd_cons (i := 7) rfl (by kernel_rfl) (fun K hK => ?_) ?_
              · skip
                go_simp
                go_at_call 12
                have hcc := implMoveLight_l _ x0 x1 _ x2 (f3a, n3a) _ ((hy0.keep hb2).keep hb3) (hy2.keep hb3)
                rw [← HR0.out, ← HR1.out] at hcc
                refine hcc.mono ?_
                clear hcc
                rintro e wk4 ⟨vH, rfl, how, hbr⟩
                obtain ⟨qH, mH, cH, fH, kH, dH, tH, iH, eH, hvv⟩ := how.shape
                subst hvv
                have fk4 := fstep fk3 hbr
                go_wp2_with fail
                refine hK.out _ _ ?_ (fun hHeld => ?_)
                · exact ⟨fkeep fk4 a0_0, fkeep fk4 a0_1, fkeep fk4 a0_2, fkeep fk4 a2_0, fkeep fk4 a2_1, fkeep fk4 a3_0, fkeep fk4 a3_1⟩
                clear hK K
                try simp only [Act.put, List.getElem_toArray, List.getElem_cons_succ, List.getElem_cons_zero, List.setIfInBounds_toArray, List.set_cons_zero, List.set_cons_succ]
                refine hd_take (i := 8) (v := ?_) rfl (by kernel_rfl) (by kernel_rfl) (by kernel_rfl) (by kernel_rfl) (fun _ _ _ h => h) (by assumption) (Or.inl ⟨by rfl, ?_⟩) ?_
                rotate_left
                · (intro w hSw; (try dsimp only at hSw); go_simp; first | done | with_reducible rfl)
                try simp only [Act.put, List.getElem_toArray, List.getElem_cons_succ, List.getElem_cons_zero, List.setIfInBounds_toArray, List.set_cons_zero, List.set_cons_succ]
                refine hd_take (i := 9) (v := ?_) rfl (by kernel_rfl) (by kernel_rfl) (by kernel_rfl) (by kernel_rfl) (fun _ _ _ h => h) (by assumption) (Or.inl ⟨by rfl, ?_⟩) ?_
                rotate_left
                · (intro w hSw; (try dsimp only at hSw); go_simp; first | done | with_reducible rfl)
                try simp only [Act.put, List.getElem_toArray, List.getElem_cons_succ, List.getElem_cons_zero, List.setIfInBounds_toArray, List.set_cons_zero, List.set_cons_succ]
                refine hd_take (i := 10) (v := ?_) rfl (by kernel_rfl) (by kernel_rfl) (by kernel_rfl) (by kernel_rfl) (fun _ _ _ h => h) (by assumption) (Or.inl ⟨by rfl, ?_⟩) ?_
                rotate_left
                · (intro w hSw; (try dsimp only at hSw); go_simp; first | done | with_reducible rfl)
                try simp only [Act.put, List.getElem_toArray, List.getElem_cons_succ, List.getElem_cons_zero, List.setIfInBounds_toArray, List.set_cons_zero, List.set_cons_succ]
                refine hd_one (i := 11) rfl (by kernel_rfl) (by kernel_rfl) (fun K hK => ?_)
                go_simp
                obtain ⟨wk5, hwa⟩ : ∃ W, W = wk4.alloc (.cells #[.slice none 0 0, .slice none 0 0, .slice none 0 0] 41) := ⟨_, rfl⟩
                rw [← hwa]
                have hba : Fresh wk4 wk5 := by rw [hwa]; exact fnew (frefl _) _
                have ra : RowAt wk5 wk4.heap.size 41 [.slice none 0 0, .slice none 0 0, .slice none 0 0] := by rw [hwa]; exact RowAt.new _ _ _
                have hga : w14.heap.size ≤ wk4.heap.size := fk4.size
                have fk5 := fstep fk4 hba
                clear hwa
                refine hK.out _ _ ?_ (fun hHeld => ?_)
                · exact ⟨fkeep fk5 a0_0, fkeep fk5 a0_1, fkeep fk5 a0_2, fkeep fk5 a2_0, fkeep fk5 a2_1, fkeep fk5 a3_0, fkeep fk5 a3_1⟩
                clear hK K
                try simp only [Act.put, List.getElem_toArray, List.getElem_cons_succ, List.getElem_cons_zero, List.setIfInBounds_toArray, List.set_cons_zero, List.set_cons_succ]
                have rb := ra
                have z0 := rb.cell (i := 0) rfl
                have z1 := rb.cell (i := 1) rfl
                have z2 := rb.cell (i := 2) rfl
                have u0 := rb.frozen 0
                have u1 := rb.frozen 1
                have u2 := rb.frozen 2
                have fs := (fset (fset (fset fk5 hga (o := 0) (.slice qH mH cH)) hga (o := 1) (.slice fH kH dH)) hga (o := 2) (.slice tH iH eH))
                refine hd_one (i := 12) rfl (by kernel_rfl) (by kernel_rfl) (fun K hK => ?_)
                (go_simp)
                refine hK.out _ _ ?_ (fun hHeld => ?_)
                · exact ⟨fkeep fs a0_0, fkeep fs a0_1, fkeep fs a0_2, fkeep fs a2_0, fkeep fs a2_1, fkeep fs a3_0, fkeep fs a3_1⟩
                clear hK K
                try simp only [Act.put, List.getElem_toArray, List.getElem_cons_succ, List.getElem_cons_zero, List.setIfInBounds_toArray, List.set_cons_zero, List.set_cons_succ]
                refine hd_done (by kernel_rfl) ?_
                clear hHeld
                simp only [List.drop_succ_cons, List.drop_zero]
                go_wp2_with fail
                go_meet
                have hrow := (((rb.set 0 (.slice qH mH cH)).set 1 (.slice fH kH dH)).set 2 (.slice tH iH eH))
                exact ⟨_, _, _, _, _, _, _, _, _, _, rfl, rfl, hrow, ((how.keep hba).box rb).held.wide (Nat.zero_le _) (Nat.le_refl _), fs, hga⟩
              · refine hd_cons (i := 11) rfl (by kernel_rfl) (fun K hK => ?_) hd_nil
                go_simp
                obtain ⟨wk6, hwa⟩ : ∃ W, W = wk3.alloc (.cells #[.slice none 0 0, .slice none 0 0, .slice none 0 0] 41) := ⟨_, rfl⟩
                rw [← hwa]
                have hba : Fresh wk3 wk6 := by rw [hwa]; exact fnew (frefl _) _
                have ra : RowAt wk6 wk3.heap.size 41 [.slice none 0 0, .slice none 0 0, .slice none 0 0] := by rw [hwa]; exact RowAt.new _ _ _
                have hga : w14.heap.size ≤ wk3.heap.size := fk3.size
                have fk6 := fstep fk3 hba
                clear hwa
                refine hK.out _ _ ?_ (fun hHeld => ?_)
                · exact ⟨fkeep fk6 a0_0, fkeep fk6 a0_1, fkeep fk6 a0_2, fkeep fk6 a2_0, fkeep fk6 a2_1, fkeep fk6 a3_0, fkeep fk6 a3_1⟩
                clear hK K
                try simp only [Act.put, List.getElem_toArray, List.getElem_cons_succ, List.getElem_cons_zero, List.setIfInBounds_toArray, List.set_cons_zero, List.set_cons_succ]
                refine hd_one (i := 7) rfl (by kernel_rfl) (by kernel_rfl) (fun K hK => ?_)
                go_simp
                go_at_call 12
                have hcc := implMoveLight_l _ x0 x1 _ x2 (f3a, n3a) _ (((hy0.keep hb2).keep hb3).keep hba) ((hy2.keep hb3).keep hba)
                rw [← HR0.out, ← HR1.out] at hcc
                refine hcc.mono ?_
                clear hcc
                rintro e wk7 ⟨vH, rfl, how, hbr⟩
                obtain ⟨qH, mH, cH, fH, kH, dH, tH, iH, eH, hvv⟩ := how.shape
                subst hvv
                have fk7 := fstep fk6 hbr
                go_wp2_with fail
                refine hK.out _ _ ?_ (fun hHeld => ?_)
                · exact ⟨fkeep fk7 a0_0, fkeep fk7 a0_1, fkeep fk7 a0_2, fkeep fk7 a2_0, fkeep fk7 a2_1, fkeep fk7 a3_0, fkeep fk7 a3_1⟩
                clear hK K
                try simp only [Act.put, List.getElem_toArray, List.getElem_cons_succ, List.getElem_cons_zero, List.setIfInBounds_toArray, List.set_cons_zero, List.set_cons_succ]
                refine hd_take (i := 8) (v := ?_) rfl (by kernel_rfl) (by kernel_rfl) (by kernel_rfl) (by kernel_rfl) (fun _ _ _ h => h) (by assumption) (Or.inl ⟨by rfl, ?_⟩) ?_
                rotate_left
                · (intro w hSw; (try dsimp only at hSw); go_simp; first | done | with_reducible rfl)
                try simp only [Act.put, List.getElem_toArray, List.getElem_cons_succ, List.getElem_cons_zero, List.setIfInBounds_toArray, List.set_cons_zero, List.set_cons_succ]
                refine hd_take (i := 9) (v := ?_) rfl (by kernel_rfl) (by kernel_rfl) (by kernel_rfl) (by kernel_rfl) (fun _ _ _ h => h) (by assumption) (Or.inl ⟨by rfl, ?_⟩) ?_
                rotate_left
                · (intro w hSw; (try dsimp only at hSw); go_simp; first | done | with_reducible rfl)
                try simp only [Act.put, List.getElem_toArray, List.getElem_cons_succ, List.getElem_cons_zero, List.setIfInBounds_toArray, List.set_cons_zero, List.set_cons_succ]
                refine hd_take (i := 10) (v := ?_) rfl (by kernel_rfl) (by kernel_rfl) (by kernel_rfl) (by kernel_rfl) (fun _ _ _ h => h) (by assumption) (Or.inl ⟨by rfl, ?_⟩) ?_
                rotate_left
                · (intro w hSw; (try dsimp only at hSw); go_simp; first | done | with_reducible rfl)
                try simp only [Act.put, List.getElem_toArray, List.getElem_cons_succ, List.getElem_cons_zero, List.setIfInBounds_toArray, List.set_cons_zero, List.set_cons_succ]
                have rb := (ra.keep hbr)
                have z0 := rb.cell (i := 0) rfl
                have z1 := rb.cell (i := 1) rfl
                have z2 := rb.cell (i := 2) rfl
                have u0 := rb.frozen 0
                have u1 := rb.frozen 1
                have u2 := rb.frozen 2
                have fs := (fset (fset (fset fk7 hga (o := 0) (.slice qH mH cH)) hga (o := 1) (.slice fH kH dH)) hga (o := 2) (.slice tH iH eH))
                refine hd_one (i := 12) rfl (by kernel_rfl) (by kernel_rfl) (fun K hK => ?_)
                (go_simp)
                refine hK.out _ _ ?_ (fun hHeld => ?_)
                · exact ⟨fkeep fs a0_0, fkeep fs a0_1, fkeep fs a0_2, fkeep fs a2_0, fkeep fs a2_1, fkeep fs a3_0, fkeep fs a3_1⟩
                clear hK K
                try simp only [Act.put, List.getElem_toArray, List.getElem_cons_succ, List.getElem_cons_zero, List.setIfInBounds_toArray, List.set_cons_zero, List.set_cons_succ]
                refine hd_done (by kernel_rfl) ?_
                clear hHeld
                simp only [List.drop_succ_cons, List.drop_zero]
                go_wp2_with fail
                go_meet
                have hrow := (((rb.set 0 (.slice qH mH cH)).set 1 (.slice fH kH dH)).set 2 (.slice tH iH eH))
                exact ⟨_, _, _, _, _, _, _, _, _, _, rfl, rfl, hrow, (how.box rb).held.wide (Nat.zero_le _) (Nat.le_refl _), fs, hga⟩
            · refine hd_cons (i := 11) rfl (by kernel_rfl) (fun K hK => ?_) hd_nil
              go_simp
              obtain ⟨wk8, hwa⟩ : ∃ W, W = wk2.alloc (.cells #[.slice none 0 0, .slice none 0 0, .slice none 0 0] 41) := ⟨_, rfl⟩
              rw [← hwa]
              have hba : Fresh wk2 wk8 := by rw [hwa]; exact fnew (frefl _) _
              have ra : RowAt wk8 wk2.heap.size 41 [.slice none 0 0, .slice none 0 0, .slice none 0 0] := by rw [hwa]; exact RowAt.new _ _ _
              have hga : w14.heap.size ≤ wk2.heap.size := fk2.size
              have fk8 := fstep fk2 hba
              clear hwa
              refine hK.out _ _ ?_ (fun hHeld => ?_)
              · exact ⟨fkeep fk8 a0_0, fkeep fk8 a0_1, fkeep fk8 a0_2, fkeep fk8 a2_0, fkeep fk8 a2_1, fkeep fk8 a3_0, fkeep fk8 a3_1⟩
              clear hK K
              try simp only [Act.put, List.getElem_toArray, List.getElem_cons_succ, List.getElem_cons_zero, List.setIfInBounds_toArray, List.set_cons_zero, List.set_cons_succ]
              refine hd_one (i := 6) rfl (by kernel_rfl) (by kernel_rfl) (fun K hK => ?_)
              go_simp
              go_at_call 11
              refine (toBlock_any f3a n3a _).mono ?_
              rintro e wk9 ⟨rfl, hb3⟩
              have fk9 := fstep fk8 hb3
              go_wp2_with fail
              refine hK.out _ _ ?_ (fun hHeld => ?_)
              · exact ⟨fkeep fk9 a0_0, fkeep fk9 a0_1, fkeep fk9 a0_2, fkeep fk9 a2_0, fkeep fk9 a2_1, fkeep fk9 a3_0, fkeep fk9 a3_1⟩
              clear hK K
              try simp only [Act.put, List.getElem_toArray, List.getElem_cons_succ, List.getElem_cons_zero, List.setIfInBounds_toArray, List.set_cons_zero, List.set_cons_succ]
              refine hd_one (i := 7) rfl (by kernel_rfl) (by kernel_rfl) (fun K hK => ?_)
              go_simp
              go_at_call 12
              have hcc := implMoveLight_l _ x0 x1 _ x2 (f3a, n3a) _ (((hy0.keep hb2).keep hba).keep hb3) ((hy2.keep hba).keep hb3)
              rw [← HR0.out, ← HR1.out] at hcc
              refine hcc.mono ?_
              clear hcc
              rintro e wk10 ⟨vH, rfl, how, hbr⟩
              obtain ⟨qH, mH, cH, fH, kH, dH, tH, iH, eH, hvv⟩ := how.shape
              subst hvv
              have fk10 := fstep fk9 hbr
              go_wp2_with fail
              refine hK.out _ _ ?_ (fun hHeld => ?_)
              · exact ⟨fkeep fk10 a0_0, fkeep fk10 a0_1, fkeep fk10 a0_2, fkeep fk10 a2_0, fkeep fk10 a2_1, fkeep fk10 a3_0, fkeep fk10 a3_1⟩
              clear hK K
              try simp only [Act.put, List.getElem_toArray, List.getElem_cons_succ, List.getElem_cons_zero, List.setIfInBounds_toArray, List.set_cons_zero, List.set_cons_succ]
              refine hd_take (i := 8) (v := ?_) rfl (by kernel_rfl) (by kernel_rfl) (by kernel_rfl) (by kernel_rfl) (fun _ _ _ h => h) (by assumption) (Or.inl ⟨by rfl, ?_⟩) ?_
              rotate_left
              · (intro w hSw; (try dsimp only at hSw); go_simp; first | done | with_reducible rfl)
              try simp only [Act.put, List.getElem_toArray, List.getElem_cons_succ, List.getElem_cons_zero, List.setIfInBounds_toArray, List.set_cons_zero, List.set_cons_succ]
              refine hd_take (i := 9) (v := ?_) rfl (by kernel_rfl) (by kernel_rfl) (by kernel_rfl) (by kernel_rfl) (fun _ _ _ h => h) (by assumption) (Or.inl ⟨by rfl, ?_⟩) ?_
              rotate_left
              · (intro w hSw; (try dsimp only at hSw); go_simp; first | done | with_reducible rfl)
              try simp only [Act.put, List.getElem_toArray, List.getElem_cons_succ, List.getElem_cons_zero, List.setIfInBounds_toArray, List.set_cons_zero, List.set_cons_succ]
              refine hd_take (i := 10) (v := ?_) rfl (by kernel_rfl) (by kernel_rfl) (by kernel_rfl) (by kernel_rfl) (fun _ _ _ h => h) (by assumption) (Or.inl ⟨by rfl, ?_⟩) ?_
              rotate_left
              · (intro w hSw; (try dsimp only at hSw); go_simp; first | done | with_reducible rfl)
              try simp only [Act.put, List.getElem_toArray, List.getElem_cons_succ, List.getElem_cons_zero, List.setIfInBounds_toArray, List.set_cons_zero, List.set_cons_succ]
              have rb := ((ra.keep hb3).keep hbr)
              have z0 := rb.cell (i := 0) rfl
              have z1 := rb.cell (i := 1) rfl
              have z2 := rb.cell (i := 2) rfl
              have u0 := rb.frozen 0
              have u1 := rb.frozen 1
              have u2 := rb.frozen 2
              have fs := (fset (fset (fset fk10 hga (o := 0) (.slice qH mH cH)) hga (o := 1) (.slice fH kH dH)) hga (o := 2) (.slice tH iH eH))
              refine hd_one (i := 12) rfl (by kernel_rfl) (by kernel_rfl) (fun K hK => ?_)
              (go_simp)
              refine hK.out _ _ ?_ (fun hHeld => ?_)
              · exact ⟨fkeep fs a0_0, fkeep fs a0_1, fkeep fs a0_2, fkeep fs a2_0, fkeep fs a2_1, fkeep fs a3_0, fkeep fs a3_1⟩
              clear hK K
              try simp only [Act.put, List.getElem_toArray, List.getElem_cons_succ, List.getElem_cons_zero, List.setIfInBounds_toArray, List.set_cons_zero, List.set_cons_succ]
              refine hd_done (by kernel_rfl) ?_
              clear hHeld
              simp only [List.drop_succ_cons, List.drop_zero]
              go_wp2_with fail
              go_meet
              have hrow := (((rb.set 0 (.slice qH mH cH)).set 1 (.slice fH kH dH)).set 2 (.slice tH iH eH))
              exact ⟨_, _, _, _, _, _, _, _, _, _, rfl, rfl, hrow, (how.box rb).held.wide (Nat.zero_le _) (Nat.le_refl _), fs, hga⟩
          · refine hd_cons (i := 11) rfl (by kernel_rfl) (fun K hK => ?_) hd_nil
            go_simp
            obtain ⟨wk11, hwa⟩ : ∃ W, W = wk1.alloc (.cells #[.slice none 0 0, .slice none 0 0, .slice none 0 0] 41) := ⟨_, rfl⟩
            rw [← hwa]
            have hba : Fresh wk1 wk11 := by rw [hwa]; exact fnew (frefl _) _
            have ra : RowAt wk11 wk1.heap.size 41 [.slice none 0 0, .slice none 0 0, .slice none 0 0] := by rw [hwa]; exact RowAt.new _ _ _
            have hga : w14.heap.size ≤ wk1.heap.size := fk1.size
            have fk11 := fstep fk1 hba
            clear hwa
            refine hK.out _ _ ?_ (fun hHeld => ?_)
            · exact ⟨fkeep fk11 a0_0, fkeep fk11 a0_1, fkeep fk11 a0_2, fkeep fk11 a2_0, fkeep fk11 a2_1, fkeep fk11 a3_0, fkeep fk11 a3_1⟩
            clear hK K
            try simp only [Act.put, List.getElem_toArray, List.getElem_cons_succ, List.getElem_cons_zero, List.setIfInBounds_toArray, List.set_cons_zero, List.set_cons_succ]
            refine hd_one (i := 4) rfl (by kernel_rfl) (by kernel_rfl) (fun K hK => ?_)
            go_simp
            go_at_call 10
            refine (toRoute_k _ x2 _ (HI2.out.keep (fstep HF.out fk11))).mono ?_
            rintro e wk12 ⟨u2, rfl, hy2, hb2⟩
            have fk12 := fstep fk11 hb2
            go_wp2_with fail
            refine hK.out _ _ ?_ (fun hHeld => ?_)
            · exact ⟨fkeep fk12 a0_0, fkeep fk12 a0_1, fkeep fk12 a0_2, fkeep fk12 a2_0, fkeep fk12 a2_1, fkeep fk12 a3_0, fkeep fk12 a3_1⟩
            clear hK K
            try simp only [Act.put, List.getElem_toArray, List.getElem_cons_succ, List.getElem_cons_zero, List.setIfInBounds_toArray, List.set_cons_zero, List.set_cons_succ]
            refine hd_one (i := 6) rfl (by kernel_rfl) (by kernel_rfl) (fun K hK => ?_)
            go_simp
            go_at_call 11
            refine (toBlock_any f3a n3a _).mono ?_
            rintro e wk13 ⟨rfl, hb3⟩
            have fk13 := fstep fk12 hb3
            go_wp2_with fail
            refine hK.out _ _ ?_ (fun hHeld => ?_)
            · exact ⟨fkeep fk13 a0_0, fkeep fk13 a0_1, fkeep fk13 a0_2, fkeep fk13 a2_0, fkeep fk13 a2_1, fkeep fk13 a3_0, fkeep fk13 a3_1⟩
            clear hK K
            try simp only [Act.put, List.getElem_toArray, List.getElem_cons_succ, List.getElem_cons_zero, List.setIfInBounds_toArray, List.set_cons_zero, List.set_cons_succ]
            refine hd_one (i := 7) rfl (by kernel_rfl) (by kernel_rfl) (fun K hK => ?_)
            go_simp
            go_at_call 12
            have hcc := implMoveLight_l _ x0 x1 _ x2 (f3a, n3a) _ (((hy0.keep hba).keep hb2).keep hb3) (hy2.keep hb3)
            rw [← HR0.out, ← HR1.out] at hcc
            refine hcc.mono ?_
            clear hcc
            rintro e wk14 ⟨vH, rfl, how, hbr⟩
            obtain ⟨qH, mH, cH, fH, kH, dH, tH, iH, eH, hvv⟩ := how.shape
            subst hvv
            have fk14 := fstep fk13 hbr
            go_wp2_with fail
            refine hK.out _ _ ?_ (fun hHeld => ?_)
            · exact ⟨fkeep fk14 a0_0, fkeep fk14 a0_1, fkeep fk14 a0_2, fkeep fk14 a2_0, fkeep fk14 a2_1, fkeep fk14 a3_0, fkeep fk14 a3_1⟩
            clear hK K
            try simp only [Act.put, List.getElem_toArray, List.getElem_cons_succ, List.getElem_cons_zero, List.setIfInBounds_toArray, List.set_cons_zero, List.set_cons_succ]
            refine hd_take (i := 8) (v := ?_) rfl (by kernel_rfl) (by kernel_rfl) (by kernel_rfl) (by kernel_rfl) (fun _ _ _ h => h) (by assumption) (Or.inl ⟨by rfl, ?_⟩) ?_
            rotate_left
            · (intro w hSw; (try dsimp only at hSw); go_simp; first | done | with_reducible rfl)
            try simp only [Act.put, List.getElem_toArray, List.getElem_cons_succ, List.getElem_cons_zero, List.setIfInBounds_toArray, List.set_cons_zero, List.set_cons_succ]
            refine hd_take (i := 9) (v := ?_) rfl (by kernel_rfl) (by kernel_rfl) (by kernel_rfl) (by kernel_rfl) (fun _ _ _ h => h) (by assumption) (Or.inl ⟨by rfl, ?_⟩) ?_
            rotate_left
            · (intro w hSw; (try dsimp only at hSw); go_simp; first | done | with_reducible rfl)
            try simp only [Act.put, List.getElem_toArray, List.getElem_cons_succ, List.getElem_cons_zero, List.setIfInBounds_toArray, List.set_cons_zero, List.set_cons_succ]
            refine hd_take (i := 10) (v := ?_) rfl (by kernel_rfl) (by kernel_rfl) (by kernel_rfl) (by kernel_rfl) (fun _ _ _ h => h) (by assumption) (Or.inl ⟨by rfl, ?_⟩) ?_
            rotate_left
            · (intro w hSw; (try dsimp only at hSw); go_simp; first | done | with_reducible rfl)
            try simp only [Act.put, List.getElem_toArray, List.getElem_cons_succ, List.getElem_cons_zero, List.setIfInBounds_toArray, List.set_cons_zero, List.set_cons_succ]
            have rb := (((ra.keep hb2).keep hb3).keep hbr)
            have z0 := rb.cell (i := 0) rfl
            have z1 := rb.cell (i := 1) rfl
            have z2 := rb.cell (i := 2) rfl
            have u0 := rb.frozen 0
            have u1 := rb.frozen 1
            have u2 := rb.frozen 2
            have fs := (fset (fset (fset fk14 hga (o := 0) (.slice qH mH cH)) hga (o := 1) (.slice fH kH dH)) hga (o := 2) (.slice tH iH eH))
            refine hd_one (i := 12) rfl (by kernel_rfl) (by kernel_rfl) (fun K hK => ?_)
            (go_simp)
            refine hK.out _ _ ?_ (fun hHeld => ?_)
            · exact ⟨fkeep fs a0_0, fkeep fs a0_1, fkeep fs a0_2, fkeep fs a2_0, fkeep fs a2_1, fkeep fs a3_0, fkeep fs a3_1⟩
            clear hK K
            try simp only [Act.put, List.getElem_toArray, List.getElem_cons_succ, List.getElem_cons_zero, List.setIfInBounds_toArray, List.set_cons_zero, List.set_cons_succ]
            refine hd_done (by kernel_rfl) ?_
            clear hHeld
            simp only [List.drop_succ_cons, List.drop_zero]
            go_wp2_with fail
            go_meet
            have hrow := (((rb.set 0 (.slice qH mH cH)).set 1 (.slice fH kH dH)).set 2 (.slice tH iH eH))
            exact ⟨_, _, _, _, _, _, _, _, _, _, rfl, rfl, hrow, (how.box rb).held.wide (Nat.zero_le _) (Nat.le_refl _), fs, hga⟩
        · refine hd_cons (i := 11) rfl (by kernel_rfl) (fun K hK => ?_) hd_nil
          go_simp
          obtain ⟨wk15, hwa⟩ : ∃ W, W = Wz.alloc (.cells #[.slice none 0 0, .slice none 0 0, .slice none 0 0] 41) := ⟨_, rfl⟩
          rw [← hwa]
          have hba : Fresh Wz wk15 := by rw [hwa]; exact fnew (frefl _) _
          have ra : RowAt wk15 Wz.heap.size 41 [.slice none 0 0, .slice none 0 0, .slice none 0 0] := by rw [hwa]; exact RowAt.new _ _ _
          have hga : w14.heap.size ≤ Wz.heap.size := f0.size
          have fk15 := fstep f0 hba
          clear hwa
          refine hK.out _ _ ?_ (fun hHeld => ?_)
          · exact ⟨fkeep fk15 a0_0, fkeep fk15 a0_1, fkeep fk15 a0_2, fkeep fk15 a2_0, fkeep fk15 a2_1, fkeep fk15 a3_0, fkeep fk15 a3_1⟩
          clear hK K
          try simp only [Act.put, List.getElem_toArray, List.getElem_cons_succ, List.getElem_cons_zero, List.setIfInBounds_toArray, List.set_cons_zero, List.set_cons_succ]
          refine hd_one (i := 1) rfl (by kernel_rfl) (by kernel_rfl) (fun K hK => ?_)
          go_simp
          go_at_call 9
          refine (toPlan_k _ x0 _ (HI0.out.keep (fstep HF.out fk15))).mono ?_
          rintro e wk16 ⟨u0, rfl, hy0, hb0⟩
          have fk16 := fstep fk15 hb0
          go_wp2_with fail
          refine hK.out _ _ ?_ (fun hHeld => ?_)
          · exact ⟨fkeep fk16 a0_0, fkeep fk16 a0_1, fkeep fk16 a0_2, fkeep fk16 a2_0, fkeep fk16 a2_1, fkeep fk16 a3_0, fkeep fk16 a3_1⟩
          clear hK K
          try simp only [Act.put, List.getElem_toArray, List.getElem_cons_succ, List.getElem_cons_zero, List.setIfInBounds_toArray, List.set_cons_zero, List.set_cons_succ]
          refine hd_one (i := 4) rfl (by kernel_rfl) (by kernel_rfl) (fun K hK => ?_)
          go_simp
          go_at_call 10
          refine (toRoute_k _ x2 _ (HI2.out.keep (fstep HF.out fk16))).mono ?_
          rintro e wk17 ⟨u2, rfl, hy2, hb2⟩
          have fk17 := fstep fk16 hb2
          go_wp2_with fail
          refine hK.out _ _ ?_ (fun hHeld => ?_)
          · exact ⟨fkeep fk17 a0_0, fkeep fk17 a0_1, fkeep fk17 a0_2, fkeep fk17 a2_0, fkeep fk17 a2_1, fkeep fk17 a3_0, fkeep fk17 a3_1⟩
          clear hK K
          try simp only [Act.put, List.getElem_toArray, List.getElem_cons_succ, List.getElem_cons_zero, List.setIfInBounds_toArray, List.set_cons_zero, List.set_cons_succ]
          refine hd_one (i := 6) rfl (by kernel_rfl) (by kernel_rfl) (fun K hK => ?_)
          go_simp
          go_at_call 11
          refine (toBlock_any f3a n3a _).mono ?_
          rintro e wk18 ⟨rfl, hb3⟩
          have fk18 := fstep fk17 hb3
          go_wp2_with fail
          refine hK.out _ _ ?_ (fun hHeld => ?_)
          · exact ⟨fkeep fk18 a0_0, fkeep fk18 a0_1, fkeep fk18 a0_2, fkeep fk18 a2_0, fkeep fk18 a2_1, fkeep fk18 a3_0, fkeep fk18 a3_1⟩
          clear hK K
          try simp only [Act.put, List.getElem_toArray, List.getElem_cons_succ, List.getElem_cons_zero, List.setIfInBounds_toArray, List.set_cons_zero, List.set_cons_succ]
          refine hd_one (i := 7) rfl (by kernel_rfl) (by kernel_rfl) (fun K hK => ?_)
          go_simp
          go_at_call 12
          have hcc := implMoveLight_l _ x0 x1 _ x2 (f3a, n3a) _ ((hy0.keep hb2).keep hb3) (hy2.keep hb3)
          rw [← HR0.out, ← HR1.out] at hcc
          refine hcc.mono ?_
          clear hcc
          rintro e wk19 ⟨vH, rfl, how, hbr⟩
          obtain ⟨qH, mH, cH, fH, kH, dH, tH, iH, eH, hvv⟩ := how.shape
          subst hvv
          have fk19 := fstep fk18 hbr
          go_wp2_with fail
          refine hK.out _ _ ?_ (fun hHeld => ?_)
          · exact ⟨fkeep fk19 a0_0, fkeep fk19 a0_1, fkeep fk19 a0_2, fkeep fk19 a2_0, fkeep fk19 a2_1, fkeep fk19 a3_0, fkeep fk19 a3_1⟩
          clear hK K
          try simp only [Act.put, List.getElem_toArray, List.getElem_cons_succ, List.getElem_cons_zero, List.setIfInBounds_toArray, List.set_cons_zero, List.set_cons_succ]
          refine hd_take (i := 8) (v := ?_) rfl (by kernel_rfl) (by kernel_rfl) (by kernel_rfl) (by kernel_rfl) (fun _ _ _ h => h) (by assumption) (Or.inl ⟨by rfl, ?_⟩) ?_
          rotate_left
          · (intro w hSw; (try dsimp only at hSw); go_simp; first | done | with_reducible rfl)
          try simp only [Act.put, List.getElem_toArray, List.getElem_cons_succ, List.getElem_cons_zero, List.setIfInBounds_toArray, List.set_cons_zero, List.set_cons_succ]
          refine hd_take (i := 9) (v := ?_) rfl (by kernel_rfl) (by kernel_rfl) (by kernel_rfl) (by kernel_rfl) (fun _ _ _ h => h) (by assumption) (Or.inl ⟨by rfl, ?_⟩) ?_
          rotate_left
          · (intro w hSw; (try dsimp only at hSw); go_simp; first | done | with_reducible rfl)
          try simp only [Act.put, List.getElem_toArray, List.getElem_cons_succ, List.getElem_cons_zero, List.setIfInBounds_toArray, List.set_cons_zero, List.set_cons_succ]
          refine hd_take (i := 10) (v := ?_) rfl (by kernel_rfl) (by kernel_rfl) (by kernel_rfl) (by kernel_rfl) (fun _ _ _ h => h) (by assumption) (Or.inl ⟨by rfl, ?_⟩) ?_
          rotate_left
          · (intro w hSw; (try dsimp only at hSw); go_simp; first | done | with_reducible rfl)
          try simp only [Act.put, List.getElem_toArray, List.getElem_cons_succ, List.getElem_cons_zero, List.setIfInBounds_toArray, List.set_cons_zero, List.set_cons_succ]
          have rb := ((((ra.keep hb0).keep hb2).keep hb3).keep hbr)
          have z0 := rb.cell (i := 0) rfl
          have z1 := rb.cell (i := 1) rfl
          have z2 := rb.cell (i := 2) rfl
          have u0 := rb.frozen 0
          have u1 := rb.frozen 1
          have u2 := rb.frozen 2
          have fs := (fset (fset (fset fk19 hga (o := 0) (.slice qH mH cH)) hga (o := 1) (.slice fH kH dH)) hga (o := 2) (.slice tH iH eH))
          refine hd_one (i := 12) rfl (by kernel_rfl) (by kernel_rfl) (fun K hK => ?_)
          (go_simp)
          refine hK.out _ _ ?_ (fun hHeld => ?_)
          · exact ⟨fkeep fs a0_0, fkeep fs a0_1, fkeep fs a0_2, fkeep fs a2_0, fkeep fs a2_1, fkeep fs a3_0, fkeep fs a3_1⟩
          clear hK K
          try simp only [Act.put, List.getElem_toArray, List.getElem_cons_succ, List.getElem_cons_zero, List.setIfInBounds_toArray, List.set_cons_zero, List.set_cons_succ]
          refine hd_done (by kernel_rfl) ?_
          clear hHeld
          simp only [List.drop_succ_cons, List.drop_zero]
          go_wp2_with fail
          go_meet
          have hrow := (((rb.set 0 (.slice qH mH cH)).set 1 (.slice fH kH dH)).set 2 (.slice tH iH eH))
          exact ⟨_, _, _, _, _, _, _, _, _, _, rfl, rfl, hrow, (how.box rb).held.wide (Nat.zero_le _) (Nat.le_refl _), fs, hga⟩
      case rest =>
        obtain ⟨gbH, qH, mH, cH, fH, kH, dH, tH, iH, eH, rfl, rfl, hrowH, howH, hb, hgbH⟩ := hcut
        have HRH := Lib.hid howH
        have bH_0 := hrowH.cell (i := 0) rfl
        have bH_1 := hrowH.cell (i := 1) rfl
        have bH_2 := hrowH.cell (i := 2) rfl
        have HSZ20 := Lib.hid (show gbH < wc.heap.size from hrowH.lt)
        have HSZ21 := Lib.hid hgbH
        obtain ⟨wcH, hwc⟩ : ∃ W, W = wc := ⟨_, rfl⟩
        subst hwc
        clear hrowH howH hgbH
        have HSZ22 := Lib.hid (hb.size)
        replace a0_0 := fkeep hb a0_0
        replace a0_1 := fkeep hb a0_1
        replace a0_2 := fkeep hb a0_2
        replace a2_0 := fkeep hb a2_0
        replace a2_1 := fkeep hb a2_1
        replace a3_0 := fkeep hb a3_0
        replace a3_1 := fkeep hb a3_1
        replace bW_0 := fkeep hb bW_0
        replace bW_1 := fkeep hb bW_1
        replace bW_2 := fkeep hb bW_2
        replace bG_0 := fkeep hb bG_0
        replace bG_1 := fkeep hb bG_1
        replace bG_2 := fkeep hb bG_2
        have HF := Lib.hid (fstep HF.out hb)
        replace HRW := Lib.hid (HRW.out.keep hb)
        replace HG := Lib.hid (HG.out.keep hb)
        clear hb
        go_wp2_with fail
        refine (eqPl_r _ _ _ _ _ _ r0 _ (HRH.out) (HRW.out) HSM.out).mono ?_
        rintro e w15 ⟨rfl, hb⟩
        have HSZ23 := Lib.hid (hb.size)
        replace a0_0 := fkeep hb a0_0
        replace a0_1 := fkeep hb a0_1
        replace a0_2 := fkeep hb a0_2
        replace a2_0 := fkeep hb a2_0
        replace a2_1 := fkeep hb a2_1
        replace a3_0 := fkeep hb a3_0
        replace a3_1 := fkeep hb a3_1
        replace bW_0 := fkeep hb bW_0
        replace bW_1 := fkeep hb bW_1
        replace bW_2 := fkeep hb bW_2
        replace bG_0 := fkeep hb bG_0
        replace bG_1 := fkeep hb bG_1
        replace bG_2 := fkeep hb bG_2
        replace bH_0 := fkeep hb bH_0
        replace bH_1 := fkeep hb bH_1
        replace bH_2 := fkeep hb bH_2
        have HF := Lib.hid (fstep HF.out hb)
        replace HRW := Lib.hid (HRW.out.keep hb)
        replace HG := Lib.hid (HG.out.keep hb)
        replace HRH := Lib.hid (HRH.out.keep hb)
        clear hb
        go_wp2_with fail
        refine (heldPl_o _ _ r0 1 _ _ HG.out HSM.out (by omega) (by omega)).mono ?_
        rintro e w16 ⟨rfl, hb⟩
        have HSZ24 := Lib.hid (hb.size)
        replace a0_0 := fkeep hb a0_0
        replace a0_1 := fkeep hb a0_1
        replace a0_2 := fkeep hb a0_2
        replace a2_0 := fkeep hb a2_0
        replace a2_1 := fkeep hb a2_1
        replace a3_0 := fkeep hb a3_0
        replace a3_1 := fkeep hb a3_1
        replace bW_0 := fkeep hb bW_0
        replace bW_1 := fkeep hb bW_1
        replace bW_2 := fkeep hb bW_2
        replace bG_0 := fkeep hb bG_0
        replace bG_1 := fkeep hb bG_1
        replace bG_2 := fkeep hb bG_2
        replace bH_0 := fkeep hb bH_0
        replace bH_1 := fkeep hb bH_1
        replace bH_2 := fkeep hb bH_2
        have HF := Lib.hid (fstep HF.out hb)
        replace HRW := Lib.hid (HRW.out.keep hb)
        replace HG := Lib.hid (HG.out.keep hb)
        replace HRH := Lib.hid (HRH.out.keep hb)
        clear hb
        go_wp2
        go_ret
        exact ⟨rfl, HF.out⟩
end Go.Proofs.YtgiinjleehgkoaaGreat
