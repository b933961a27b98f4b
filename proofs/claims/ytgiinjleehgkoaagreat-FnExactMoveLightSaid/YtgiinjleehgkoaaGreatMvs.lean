/- Contracts: MoveLight, the reference's side. -/
import Derived.Test.YtgiinjleehgkoaaGreatMv
import Derived.Test.YtgiinjleehgkoaaGreatPt
import Derived.Test.YtgiinjleehgkoaaGreatMvP
namespace Go.Proofs.YtgiinjleehgkoaaGreat
open Go.RowKit Go.PlainAid

theorem kq7 {w1 w2 : World} {a b d : Nat} {v v' v'' v0 v1 v2 v3 : Value} (h : w1.cell? ⟨a, 0, none⟩ = some v ∧ w1.cell? ⟨a, 1, none⟩ = some v' ∧ w1.cell? ⟨a, 2, none⟩ = some v'' ∧ w1.cell? ⟨b, 0, none⟩ = some v0 ∧ w1.cell? ⟨b, 1, none⟩ = some v1 ∧ w1.cell? ⟨d, 0, none⟩ = some v2 ∧ w1.cell? ⟨d, 1, none⟩ = some v3) (hb : Fresh w1 w2) :
    w2.cell? ⟨a, 0, none⟩ = some v ∧ w2.cell? ⟨a, 1, none⟩ = some v' ∧ w2.cell? ⟨a, 2, none⟩ = some v'' ∧ w2.cell? ⟨b, 0, none⟩ = some v0 ∧ w2.cell? ⟨b, 1, none⟩ = some v1 ∧ w2.cell? ⟨d, 0, none⟩ = some v2 ∧ w2.cell? ⟨d, 1, none⟩ = some v3 :=
  ⟨fkeep hb h.1, fkeep hb h.2.1, fkeep hb h.2.2.1, fkeep hb h.2.2.2.1, fkeep hb h.2.2.2.2.1, fkeep hb h.2.2.2.2.2.1, fkeep hb h.2.2.2.2.2.2⟩
theorem er_small {P : PlanV} {i : Nat} (hs : PlSmall P) : PlSmall ⟨P.net, P.lights.eraseIdx i⟩ := by
  have hle : (P.lights.eraseIdx i).length ≤ P.lights.length := by rw [List.length_eraseIdx]; split <;> omega
  exact ⟨hs.1, ⟨Nat.le_trans hle hs.2.1, fun x hx => hs.2.2 x (mem_erase hx)⟩⟩
set_option maxHeartbeats 8000000 in
set_option maxRecDepth 100000 in
theorem specMoveLight_any (v vr : Value) (P : PlanV) (id : Int) (R : Int × List Int) (b : Int × Int) (w : World) (h : PlIn w v P) (hR : RtIn w vr R) : Calls Tryz.prog 8 #[v, .int .i64 id, vr, .agg #[.int .i64 b.1, .int .i64 b.2]] w fun e w' => ∃ v', e = .returned (.tuple #[v', .bool (mvF P id R b).2]) ∧ PlOwn w' w.heap.size v' (mvF P id R b).1 ∧ Fresh w w' := by
  obtain ⟨bf, bc⟩ := b
  obtain ⟨rs, rq, rcap, rl, rfl, hRI, hRn, rfl⟩ := hR
  have HP := Lib.hid h
  have hsm := h.isSmall
  have HSM := Lib.hid hsm
  obtain ⟨q, m, c, p, k, d, r, i0, e0, rfl⟩ := h.shape
  obtain ⟨W2, hW2, hsz2, hf2, r1, r2, r3, r4⟩ := four_rows w [.slice q m c, .slice p k d, .slice r i0 e0] [.int .i64 rs, .slice rq rl.length rcap] [.int .i64 bf, .int .i64 bc] [.slice none 0 0, .slice none 0 0, .slice none 0 0] 41 45 47 41
  have HC := Lib.hid (l9Good_any _ P W2 (HP.out.keep hf2))
  have HCF : Hid (∀ W, Fresh W2 W → Calls Tryz.prog 34 #[.agg #[.slice q m c, .slice p k d, .slice r i0 e0], .int .i64 id] W fun e w' => e = .returned (.int .i64 (findL P.lights id)) ∧ Fresh W w') := fun W hW => l9Find_any _ P id W (HP.out.keep (fstep hf2 hW))
  have HF2 := Lib.hid hf2
  have HR1 := Lib.hid r1
  have HR2 := Lib.hid r2
  have HR3 := Lib.hid r3
  have HR4 := Lib.hid r4
  have HRI := Lib.hid (hRI.keep hf2)
  have HW2 := Lib.hid hW2
  have hsz := hf2.size
  have hlo2 : -1 ≤ findL P.lights id := (idxP_lo P.lights fun x => x.1 == id).1
  obtain ⟨RM, hRM⟩ : ∃ R, R = mvF P id (rs, rl) (bf, bc) := ⟨_, rfl⟩
  simp only at hRn ⊢
  rw [← hRM]
  have HRM := Lib.hid hRM
  clear h hsm hf2 r1 r2 r3 r4 hW2 hRM hRI
  go_enter Tryz.func8, Tryz.ntmps8
  go_wp2_with fail
  rw [← HW2.out]
  refine (HC.out).mono ?_
  rintro e w1 ⟨rfl, hb⟩
  have HB := Lib.hid hb
  have hszb := hb.size
  have hz := HR4.out.keep hb
  have y0 := (HR1.out.keep hb).cell (i := 0) rfl
  have y1 := (HR1.out.keep hb).cell (i := 1) rfl
  have y2 := (HR1.out.keep hb).cell (i := 2) rfl
  have HZ1 := Lib.hid hz
  cases hpl : planB P
  · have HE : Hid (RM = (zeroP, false)) := by show _ = _; rw [HRM.out, mvF_no (by rw [hpl]; simp)]
    have x0 := hz.cell (i := 0) rfl
    have x1 := hz.cell (i := 1) rfl
    have x2 := hz.cell (i := 2) rfl
    have u0 := hz.frozen 0
    have u1 := hz.frozen 1
    have u2 := hz.frozen 2
    have hfin := ((hz.set 0 (.slice none 0 0)).set 1 (.slice none 0 0)).set 2 (.slice none 0 0)
    have k0 := hfin.cell (i := 0) rfl
    have k1 := hfin.cell (i := 1) rfl
    have k2 := hfin.cell (i := 2) rfl
    have HFF := Lib.hid (fstep HF2.out hb)
    clear hz hb hfin HC hpl
    go_wp2
    refine bodyPost_ret (v := .tuple #[.agg #[.slice none 0 0, .slice none 0 0, .slice none 0 0], .bool false]) (by simp [results, Tryz.results8, go_sem, k0, k1, k2]) rfl ?_
    rw [HE.out]
    exact ⟨_, rfl, zeroP_own _ _, fset (fset (fset HFF.out (by omega) _) (by omega) _) (by omega) _⟩
  · obtain ⟨FI, hFI⟩ : ∃ F, F = findL P.lights id := ⟨_, rfl⟩
    rw [← hFI] at HCF hlo2
    have HFI := Lib.hid hFI
    have HPL := Lib.hid hpl
    clear hFI hpl hb hz HC
    go_wp2_with fail
    refine (HCF.out _ HB.out).mono ?_
    rintro e w2 ⟨rfl, hb⟩
    have HB2 := Lib.hid (fstep HB.out hb)
    have hszb2 := hb.size
    have hz := HZ1.out.keep hb
    replace y0 := fkeep hb y0
    replace y1 := fkeep hb y1
    replace y2 := fkeep hb y2
    have HZ2 := Lib.hid hz
    have HFF := Lib.hid (fstep HF2.out HB2.out)
    clear hb
    by_cases hneg : FI < 0
    · have HE : Hid (RM = (zeroP, false)) := by show _ = _; rw [HRM.out, mvF_no (by rw [← HFI.out]; omega)]
      have x0 := hz.cell (i := 0) rfl
      have x1 := hz.cell (i := 1) rfl
      have x2 := hz.cell (i := 2) rfl
      have u0 := hz.frozen 0
      have u1 := hz.frozen 1
      have u2 := hz.frozen 2
      have hfin := ((hz.set 0 (.slice none 0 0)).set 1 (.slice none 0 0)).set 2 (.slice none 0 0)
      have k0 := hfin.cell (i := 0) rfl
      have k1 := hfin.cell (i := 1) rfl
      have k2 := hfin.cell (i := 2) rfl
      clear hz hfin
      go_wp2
      refine bodyPost_ret (v := .tuple #[.agg #[.slice none 0 0, .slice none 0 0, .slice none 0 0], .bool false]) (by simp [results, Tryz.results8, go_sem, k0, k1, k2]) rfl ?_
      rw [HE.out]
      exact ⟨_, rfl, zeroP_own _ _, fset (fset (fset HFF.out (by omega) _) (by omega) _) (by omega) _⟩
    · obtain ⟨i, rfl⟩ : ∃ i : Nat, FI = (i : Int) := ⟨FI.toNat, by omega⟩
      have hil : i < P.lights.length := by have := findL_lt (L := P.lights) (id := id) (by rw [← HFI.out]; omega); rw [← HFI.out] at this; simpa using this
      have h12 := (planB_at HPL.out).2.1
      have HIF : Hid (insF (P.lights.eraseIdx i) (id, (rs, rl), (bf, bc)) = P.lights.set i (id, (rs, rl), (bf, bc))) := by
        have h9 := mv_same HPL.out (id := id) (by rw [← HFI.out]; omega) (rs, rl) (bf, bc)
        rw [← HFI.out] at h9
        exact h9
      obtain ⟨Q, hQ⟩ : ∃ Q : PlanV, Q = ⟨P.net, P.lights.set i (id, (rs, rl), (bf, bc))⟩ := ⟨_, rfl⟩
      have HE : Hid (RM = okF Q) := by show _ = _; rw [HRM.out, mvF_yes ⟨HPL.out, by rw [← HFI.out]; omega⟩, ← HFI.out, hQ]; simp
      have HQS : Hid (PlSmall Q) := by show PlSmall Q; rw [hQ]; exact ⟨HSM.out.1, set_small HSM.out.2 hRn⟩
      have HQ := Lib.hid hQ
      clear hQ
      have HWO : Hid (∀ W, Fresh w2 W → Calls Tryz.prog 36 #[.agg #[.slice q m c, .slice p k d, .slice r i0 e0], .int .i64 (i : Int)] W fun e w' => ∃ v', e = .returned v' ∧ PlOwn w' w.heap.size v' ⟨P.net, P.lights.eraseIdx i⟩ ∧ Fresh W w') := fun W hW =>
        (l9Without_any _ P i W (HP.out.keep (fstep HFF.out hW)) hil).mono fun e w' ⟨v', a1, a2, a3⟩ => ⟨v', a1, a2.mono (Nat.le_trans HFF.out.size hW.size), a3⟩
      have HPU : Hid (∀ W v', PlOwn W w.heap.size v' ⟨P.net, P.lights.eraseIdx i⟩ → Fresh w2 W → Calls Tryz.prog 35 #[v', .agg #[.int .i64 id, .int .i64 rs, .slice rq rl.length rcap, .int .i64 bf, .int .i64 bc]] W fun e w' => ∃ v'', e = .returned v'' ∧ PlOwn w' w.heap.size v'' Q ∧ Fresh W w') := fun W v' ho hW =>
        (l9Put_any v' _ ⟨P.net, P.lights.eraseIdx i⟩ (id, (rs, rl), (bf, bc)) W (ho.plIn (er_small HSM.out)) ⟨⟨id, ⟨rs, rq, rcap, rl⟩, bf, bc⟩, rfl, HRI.out.keep (fstep HB2.out hW), hRn, rfl⟩ (by show (P.lights.eraseIdx i).length ≤ 1024; rw [List.length_eraseIdx]; split <;> omega)).mono fun e w' ⟨v'', a1, a2, a3⟩ => ⟨v'', a1, by have a4 := a2.mono (Nat.le_trans HFF.out.size hW.size); simp only at a4; rw [HIF.out, ← HQ.out] at a4; exact a4, a3⟩
      have HCG : Hid (∀ W v', PlOwn W w.heap.size v' Q → Calls Tryz.prog 33 #[v'] W fun e w' => e = .returned (.bool (planB Q)) ∧ Fresh W w') := fun W v' ho => l9Good_any _ Q W (ho.plIn HQS.out)
      have HCF2 : Hid (∀ W, Fresh w2 W → Calls Tryz.prog 34 #[.agg #[.slice q m c, .slice p k d, .slice r i0 e0], .int .i64 id] W fun e w' => e = .returned (.int .i64 (i : Int)) ∧ Fresh W w') := fun W hW => HCF.out W (fstep HB2.out hW)
      have hrr := HR2.out.keep HB2.out
      have hrb := HR3.out.keep HB2.out
      have HSS : w2.cell? ⟨w.heap.size, 0, none⟩ = some (.slice q m c) ∧ w2.cell? ⟨w.heap.size, 1, none⟩ = some (.slice p k d) ∧ w2.cell? ⟨w.heap.size, 2, none⟩ = some (.slice r i0 e0) ∧ w2.cell? ⟨w.heap.size + 1, 0, none⟩ = some (.int .i64 rs) ∧ w2.cell? ⟨w.heap.size + 1, 1, none⟩ = some (.slice rq rl.length rcap) ∧ w2.cell? ⟨w.heap.size + 1 + 1, 0, none⟩ = some (.int .i64 bf) ∧ w2.cell? ⟨w.heap.size + 1 + 1, 1, none⟩ = some (.int .i64 bc) :=
        ⟨y0, y1, y2, hrr.cell (i := 0) rfl, hrr.cell (i := 1) rfl, hrb.cell (i := 0) rfl, hrb.cell (i := 1) rfl⟩
      have hgb : w.heap.size + 1 + 1 + 1 < w2.heap.size := HZ2.out.lt
      clear hz hlo2 hneg y0 y1 y2 hrr hrb HCF
      go_wp2
      refine hd_start (n := 11) (S := fun w' => w'.cell? ⟨w.heap.size, 0, none⟩ = some (.slice q m c) ∧ w'.cell? ⟨w.heap.size, 1, none⟩ = some (.slice p k d) ∧ w'.cell? ⟨w.heap.size, 2, none⟩ = some (.slice r i0 e0) ∧ w'.cell? ⟨w.heap.size + 1, 0, none⟩ = some (.int .i64 rs) ∧ w'.cell? ⟨w.heap.size + 1, 1, none⟩ = some (.slice rq rl.length rcap) ∧ w'.cell? ⟨w.heap.size + 1 + 1, 0, none⟩ = some (.int .i64 bf) ∧ w'.cell? ⟨w.heap.size + 1 + 1, 1, none⟩ = some (.int .i64 bc)) (by kernel_rfl) (by kernel_rfl) (kq7 HSS (fdrew (frefl _))) (fun hHeld => ?_)
      obtain ⟨x0, hx0⟩ : ∃ W, W = w2.drew := ⟨_, rfl⟩
      rw [← hx0] at hHeld ⊢
      have f0 : Fresh w2 x0 := by rw [hx0]; exact fdrew (frefl _)
      clear hx0
      refine hd_take (i := 0) (v := ?_) rfl (by kernel_rfl) (by kernel_rfl) (by kernel_rfl) (by kernel_rfl) (fun _ _ _ h => h) (by assumption) (Or.inl ⟨by rfl, ?_⟩) ?_
      rotate_left
      · (intro w hSw; (try dsimp only at hSw); go_simp; first | done | with_reducible rfl)
      try simp only [Act.put, List.getElem_toArray, List.getElem_cons_succ, List.getElem_cons_zero, List.setIfInBounds_toArray, List.set_cons_zero, List.set_cons_succ]
      refine hd_take (i := 1) (v := ?_) rfl (by kernel_rfl) (by kernel_rfl) (by kernel_rfl) (by kernel_rfl) (fun _ _ _ h => h) (by assumption) (Or.inl ⟨by rfl, ?_⟩) ?_
      rotate_left
      · (intro w hSw; (try dsimp only at hSw); go_simp; first | done | with_reducible rfl)
      try simp only [Act.put, List.getElem_toArray, List.getElem_cons_succ, List.getElem_cons_zero, List.setIfInBounds_toArray, List.set_cons_zero, List.set_cons_succ]
      refine hd_take (i := 2) (v := ?_) rfl (by kernel_rfl) (by kernel_rfl) (by kernel_rfl) (by kernel_rfl) (fun _ _ _ h => h) (by assumption) (Or.inl ⟨by rfl, ?_⟩) ?_
      rotate_left
      · (intro w hSw; (try dsimp only at hSw); go_simp; first | done | with_reducible rfl)
      try simp only [Act.put, List.getElem_toArray, List.getElem_cons_succ, List.getElem_cons_zero, List.setIfInBounds_toArray, List.set_cons_zero, List.set_cons_succ]
      refine hd_take (i := 5) (v := ?_) rfl (by kernel_rfl) (by kernel_rfl) (by kernel_rfl) (by kernel_rfl) (fun _ _ _ h => h) (by assumption) (Or.inl ⟨by rfl, ?_⟩) ?_
      rotate_left
      · (intro w hSw; (try dsimp only at hSw); go_simp; first | done | with_reducible rfl)
      try simp only [Act.put, List.getElem_toArray, List.getElem_cons_succ, List.getElem_cons_zero, List.setIfInBounds_toArray, List.set_cons_zero, List.set_cons_succ]
      refine hd_take (i := 6) (v := ?_) rfl (by kernel_rfl) (by kernel_rfl) (by kernel_rfl) (by kernel_rfl) (fun _ _ _ h => h) (by assumption) (Or.inl ⟨by rfl, ?_⟩) ?_
      rotate_left
      · (intro w hSw; (try dsimp only at hSw); go_simp; first | done | with_reducible rfl)
      try simp only [Act.put, List.getElem_toArray, List.getElem_cons_succ, List.getElem_cons_zero, List.setIfInBounds_toArray, List.set_cons_zero, List.set_cons_succ]
      refine hd_take (i := 7) (v := ?_) rfl (by kernel_rfl) (by kernel_rfl) (by kernel_rfl) (by kernel_rfl) (fun _ _ _ h => h) (by assumption) (Or.inl ⟨by rfl, ?_⟩) ?_
      rotate_left
      · (intro w hSw; (try dsimp only at hSw); go_simp; first | done | with_reducible rfl)
      try simp only [Act.put, List.getElem_toArray, List.getElem_cons_succ, List.getElem_cons_zero, List.setIfInBounds_toArray, List.set_cons_zero, List.set_cons_succ]
      refine hd_take (i := 8) (v := ?_) rfl (by kernel_rfl) (by kernel_rfl) (by kernel_rfl) (by kernel_rfl) (fun _ _ _ h => h) (by assumption) (Or.inl ⟨by rfl, ?_⟩) ?_
      rotate_left
      · (intro w hSw; (try dsimp only at hSw); go_simp; first | done | with_reducible rfl)
      try simp only [Act.put, List.getElem_toArray, List.getElem_cons_succ, List.getElem_cons_zero, List.setIfInBounds_toArray, List.set_cons_zero, List.set_cons_succ]
      refine hd_ready (rs := [3, 10]) (by kernel_rfl) (by simp) ?_
      refine hd_cons (i := 3) rfl (by kernel_rfl) (fun K hK => ?_) ?_
      · skip
        go_simp
        go_at_call 34
        refine (HCF2.out x0 f0).mono ?_
        rintro e x1 ⟨rfl, hb⟩
        have f1 : Fresh w2 x1 := fstep f0 hb
        clear hb
        go_wp2_with fail
        refine hK.out _ _ ?_ (fun hHeld => ?_)
        · exact kq7 HSS f1
        clear hK K
        try simp only [Act.put, List.getElem_toArray, List.getElem_cons_succ, List.getElem_cons_zero, List.setIfInBounds_toArray, List.set_cons_zero, List.set_cons_succ]
        refine hd_ready (rs := [4, 10]) (by kernel_rfl) (by simp) ?_
        refine hd_cons (i := 4) rfl (by kernel_rfl) (fun K hK => ?_) ?_
        · skip
          go_simp
          go_at_call 36
          refine (HWO.out x1 f1).mono ?_
          rintro e x2 ⟨v4, rfl, ho4, hb⟩
          have f2 : Fresh w2 x2 := fstep f1 hb
          clear hb
          go_wp2_with fail
          refine hK.out _ _ ?_ (fun hHeld => ?_)
          · exact kq7 HSS f2
          clear hK K
          try simp only [Act.put, List.getElem_toArray, List.getElem_cons_succ, List.getElem_cons_zero, List.setIfInBounds_toArray, List.set_cons_zero, List.set_cons_succ]
          refine hd_ready (rs := [9, 10]) (by kernel_rfl) (by simp) ?_
          refine hd_cons (i := 9) rfl (by kernel_rfl) (fun K hK => ?_) ?_
          · skip
            go_simp
            go_at_call 35
            refine (HPU.out x2 v4 ho4 f2).mono ?_
            rintro e x3 ⟨v9, rfl, ho9, hb⟩
            clear ho4
            have f3 : Fresh w2 x3 := fstep f2 hb
            clear hb
            go_wp2_with fail
            refine hK.out _ _ ?_ (fun hHeld => ?_)
            · exact kq7 HSS f3
            clear hK K
            try simp only [Act.put, List.getElem_toArray, List.getElem_cons_succ, List.getElem_cons_zero, List.setIfInBounds_toArray, List.set_cons_zero, List.set_cons_succ]
            refine hd_ready (rs := [10]) (by kernel_rfl) (by simp) ?_
            refine hd_cons (i := 10) rfl (by kernel_rfl) (fun K hK => ?_) ?_
            · skip
              go_simp
              obtain ⟨x4, hx4⟩ : ∃ W, W = x3.alloc (.cells #[.slice none 0 0, .slice none 0 0, .slice none 0 0] 41) := ⟨_, rfl⟩
              rw [← hx4]
              obtain ⟨bx, hbxe⟩ : ∃ b, b = x3.heap.size := ⟨_, rfl⟩
              have hbx : RowAt x4 bx 41 [.slice none 0 0, .slice none 0 0, .slice none 0 0] := by rw [hx4, hbxe]; exact RowAt.new _ _ _
              have hbz : w2.heap.size ≤ bx := by rw [hbxe]; exact f3.size
              have hb : Fresh x3 x4 := by rw [hx4]; exact fnew (frefl _) _
              rw [← hbxe]
              clear hx4 hbxe
              have f4 : Fresh w2 x4 := fstep f3 hb
              replace ho9 := ho9.keep hb
              clear hb
              refine hK.out _ _ ?_ (fun hHeld => ?_)
              · exact kq7 HSS f4
              clear hK K
              try simp only [Act.put, List.getElem_toArray, List.getElem_cons_succ, List.getElem_cons_zero, List.setIfInBounds_toArray, List.set_cons_zero, List.set_cons_succ]
              refine hd_done (by kernel_rfl) ?_
              clear hHeld
              simp only [List.drop_succ_cons, List.drop_zero]
              obtain ⟨a0, a1, a2, b0, b1, b2, c0, c1, c2, hvv⟩ := ho9.shape
              subst hvv
              have g0 := hbx.cell (i := 0) rfl
              have g1 := hbx.cell (i := 1) rfl
              have g2 := hbx.cell (i := 2) rfl
              have g3 := hbx.frozen 0
              have g4 := hbx.frozen 1
              have g5 := hbx.frozen 2
              obtain ⟨X, hX⟩ : ∃ X, X = ((x4.setCell ⟨bx, 0, none⟩ (.slice a0 a1 a2)).setCell ⟨bx, 1, none⟩ (.slice b0 b1 b2)).setCell ⟨bx, 2, none⟩ (.slice c0 c1 c2) := ⟨_, rfl⟩
              have hrx : RowAt X bx 41 [.slice a0 a1 a2, .slice b0 b1 b2, .slice c0 c1 c2] := by rw [hX]; exact ((hbx.set 0 _).set 1 _).set 2 _
              have hox : PlOwn X w.heap.size (.agg #[.slice a0 a1 a2, .slice b0 b1 b2, .slice c0 c1 c2]) Q := by rw [hX]; exact ho9.box hbx
              have hbw : w.heap.size ≤ bx := by omega
              have hne : w.heap.size + 1 + 1 + 1 ≠ bx := by omega
              have hzx : RowAt X (w.heap.size + 1 + 1 + 1) 41 [.slice none 0 0, .slice none 0 0, .slice none 0 0] := by rw [hX]; exact (((HZ2.out.keep f4).setOther hne _).setOther hne _).setOther hne _
              have hfx : Fresh w X := by rw [hX]; exact fset (fset (fset (fstep HFF.out f4) hbw _) hbw _) hbw _
              have HOX := Lib.hid hox
              have HRX := Lib.hid hrx
              have HZX := Lib.hid hzx
              have HFX := Lib.hid hfx
              have HX := Lib.hid hX
              have HC9 := Lib.hid (HCG.out X _ hox)
              clear hox hrx hzx hfx hX ho9 hbx f0 f1 f2 f3 f4 HSS
              go_wp2_with fail
              rw [← HX.out]
              refine (HC9.out).mono ?_
              rintro e w9 ⟨rfl, hb9⟩
              have hz := HZX.out.keep hb9
              have HB9 := Lib.hid (HOX.out.keep hb9)
              have HFF := Lib.hid (fstep HFX.out hb9)
              have l0 := (HRX.out.keep hb9).cell (i := 0) rfl
              have l1 := (HRX.out.keep hb9).cell (i := 1) rfl
              have l2 := (HRX.out.keep hb9).cell (i := 2) rfl
              clear hb9 HC9 g0 g1 g2 g3 g4 g5
              cases hpq : planB Q
              · have HEQ : Hid (RM = (zeroP, false)) := by show _ = _; rw [HE.out, okF_no hpq]
                have HE := HEQ
                have x0 := hz.cell (i := 0) rfl
                have x1 := hz.cell (i := 1) rfl
                have x2 := hz.cell (i := 2) rfl
                have u0 := hz.frozen 0
                have u1 := hz.frozen 1
                have u2 := hz.frozen 2
                have hfin := ((hz.set 0 (.slice none 0 0)).set 1 (.slice none 0 0)).set 2 (.slice none 0 0)
                have k0 := hfin.cell (i := 0) rfl
                have k1 := hfin.cell (i := 1) rfl
                have k2 := hfin.cell (i := 2) rfl
                clear hz hfin hpq
                go_wp2
                refine bodyPost_ret (v := .tuple #[.agg #[.slice none 0 0, .slice none 0 0, .slice none 0 0], .bool false]) (by simp [results, Tryz.results8, go_sem, k0, k1, k2]) rfl ?_
                rw [HE.out]
                exact ⟨_, rfl, zeroP_own _ _, fset (fset (fset HFF.out (by omega) _) (by omega) _) (by omega) _⟩
              · have HEQ : Hid (RM = (Q, true)) := by show _ = _; rw [HE.out, okF_yes hpq]
                have x0 := hz.cell (i := 0) rfl
                have x1 := hz.cell (i := 1) rfl
                have x2 := hz.cell (i := 2) rfl
                have u0 := hz.frozen 0
                have u1 := hz.frozen 1
                have u2 := hz.frozen 2
                have hfin := ((hz.set 0 (.slice a0 a1 a2)).set 1 (.slice b0 b1 b2)).set 2 (.slice c0 c1 c2)
                have k0 := hfin.cell (i := 0) rfl
                have k1 := hfin.cell (i := 1) rfl
                have k2 := hfin.cell (i := 2) rfl
                have HZ9 := Lib.hid hz
                clear hz hfin hpq
                go_wp2
                refine bodyPost_ret (v := .tuple #[.agg #[.slice a0 a1 a2, .slice b0 b1 b2, .slice c0 c1 c2], .bool true]) (by simp [results, Tryz.results8, go_sem, k0, k1, k2]) rfl ?_
                rw [HEQ.out]
                exact ⟨_, rfl, HB9.out.box HZ9.out, fset (fset (fset HFF.out (by omega) _) (by omega) _) (by omega) _⟩
            exact hd_nil
          refine hd_cons (i := 10) rfl (by kernel_rfl) (fun K hK => ?_) ?_
          · skip
            go_simp
            obtain ⟨x3, hx3⟩ : ∃ W, W = x2.alloc (.cells #[.slice none 0 0, .slice none 0 0, .slice none 0 0] 41) := ⟨_, rfl⟩
            rw [← hx3]
            obtain ⟨bx, hbxe⟩ : ∃ b, b = x2.heap.size := ⟨_, rfl⟩
            have hbx : RowAt x3 bx 41 [.slice none 0 0, .slice none 0 0, .slice none 0 0] := by rw [hx3, hbxe]; exact RowAt.new _ _ _
            have hbz : w2.heap.size ≤ bx := by rw [hbxe]; exact f2.size
            have hb : Fresh x2 x3 := by rw [hx3]; exact fnew (frefl _) _
            rw [← hbxe]
            clear hx3 hbxe
            have f3 : Fresh w2 x3 := fstep f2 hb
            replace ho4 := ho4.keep hb
            clear hb
            refine hK.out _ _ ?_ (fun hHeld => ?_)
            · exact kq7 HSS f3
            clear hK K
            try simp only [Act.put, List.getElem_toArray, List.getElem_cons_succ, List.getElem_cons_zero, List.setIfInBounds_toArray, List.set_cons_zero, List.set_cons_succ]
            refine hd_ready (rs := [9]) (by kernel_rfl) (by simp) ?_
            refine hd_cons (i := 9) rfl (by kernel_rfl) (fun K hK => ?_) ?_
            · skip
              go_simp
              go_at_call 35
              refine (HPU.out x3 v4 ho4 f3).mono ?_
              rintro e x4 ⟨v9, rfl, ho9, hb⟩
              clear ho4
              have f4 : Fresh w2 x4 := fstep f3 hb
              replace hbx := hbx.keep hb
              clear hb
              go_wp2_with fail
              refine hK.out _ _ ?_ (fun hHeld => ?_)
              · exact kq7 HSS f4
              clear hK K
              try simp only [Act.put, List.getElem_toArray, List.getElem_cons_succ, List.getElem_cons_zero, List.setIfInBounds_toArray, List.set_cons_zero, List.set_cons_succ]
              refine hd_done (by kernel_rfl) ?_
              clear hHeld
              simp only [List.drop_succ_cons, List.drop_zero]
              obtain ⟨a0, a1, a2, b0, b1, b2, c0, c1, c2, hvv⟩ := ho9.shape
              subst hvv
              have g0 := hbx.cell (i := 0) rfl
              have g1 := hbx.cell (i := 1) rfl
              have g2 := hbx.cell (i := 2) rfl
              have g3 := hbx.frozen 0
              have g4 := hbx.frozen 1
              have g5 := hbx.frozen 2
              obtain ⟨X, hX⟩ : ∃ X, X = ((x4.setCell ⟨bx, 0, none⟩ (.slice a0 a1 a2)).setCell ⟨bx, 1, none⟩ (.slice b0 b1 b2)).setCell ⟨bx, 2, none⟩ (.slice c0 c1 c2) := ⟨_, rfl⟩
              have hrx : RowAt X bx 41 [.slice a0 a1 a2, .slice b0 b1 b2, .slice c0 c1 c2] := by rw [hX]; exact ((hbx.set 0 _).set 1 _).set 2 _
              have hox : PlOwn X w.heap.size (.agg #[.slice a0 a1 a2, .slice b0 b1 b2, .slice c0 c1 c2]) Q := by rw [hX]; exact ho9.box hbx
              have hbw : w.heap.size ≤ bx := by omega
              have hne : w.heap.size + 1 + 1 + 1 ≠ bx := by omega
              have hzx : RowAt X (w.heap.size + 1 + 1 + 1) 41 [.slice none 0 0, .slice none 0 0, .slice none 0 0] := by rw [hX]; exact (((HZ2.out.keep f4).setOther hne _).setOther hne _).setOther hne _
              have hfx : Fresh w X := by rw [hX]; exact fset (fset (fset (fstep HFF.out f4) hbw _) hbw _) hbw _
              have HOX := Lib.hid hox
              have HRX := Lib.hid hrx
              have HZX := Lib.hid hzx
              have HFX := Lib.hid hfx
              have HX := Lib.hid hX
              have HC9 := Lib.hid (HCG.out X _ hox)
              clear hox hrx hzx hfx hX ho9 hbx f0 f1 f2 f3 f4 HSS
              go_wp2_with fail
              rw [← HX.out]
              refine (HC9.out).mono ?_
              rintro e w9 ⟨rfl, hb9⟩
              have hz := HZX.out.keep hb9
              have HB9 := Lib.hid (HOX.out.keep hb9)
              have HFF := Lib.hid (fstep HFX.out hb9)
              have l0 := (HRX.out.keep hb9).cell (i := 0) rfl
              have l1 := (HRX.out.keep hb9).cell (i := 1) rfl
              have l2 := (HRX.out.keep hb9).cell (i := 2) rfl
              clear hb9 HC9 g0 g1 g2 g3 g4 g5
              cases hpq : planB Q
              · have HEQ : Hid (RM = (zeroP, false)) := by show _ = _; rw [HE.out, okF_no hpq]
                have HE := HEQ
                have x0 := hz.cell (i := 0) rfl
                have x1 := hz.cell (i := 1) rfl
                have x2 := hz.cell (i := 2) rfl
                have u0 := hz.frozen 0
                have u1 := hz.frozen 1
                have u2 := hz.frozen 2
                have hfin := ((hz.set 0 (.slice none 0 0)).set 1 (.slice none 0 0)).set 2 (.slice none 0 0)
                have k0 := hfin.cell (i := 0) rfl
                have k1 := hfin.cell (i := 1) rfl
                have k2 := hfin.cell (i := 2) rfl
                clear hz hfin hpq
                go_wp2
                refine bodyPost_ret (v := .tuple #[.agg #[.slice none 0 0, .slice none 0 0, .slice none 0 0], .bool false]) (by simp [results, Tryz.results8, go_sem, k0, k1, k2]) rfl ?_
                rw [HE.out]
                exact ⟨_, rfl, zeroP_own _ _, fset (fset (fset HFF.out (by omega) _) (by omega) _) (by omega) _⟩
              · have HEQ : Hid (RM = (Q, true)) := by show _ = _; rw [HE.out, okF_yes hpq]
                have x0 := hz.cell (i := 0) rfl
                have x1 := hz.cell (i := 1) rfl
                have x2 := hz.cell (i := 2) rfl
                have u0 := hz.frozen 0
                have u1 := hz.frozen 1
                have u2 := hz.frozen 2
                have hfin := ((hz.set 0 (.slice a0 a1 a2)).set 1 (.slice b0 b1 b2)).set 2 (.slice c0 c1 c2)
                have k0 := hfin.cell (i := 0) rfl
                have k1 := hfin.cell (i := 1) rfl
                have k2 := hfin.cell (i := 2) rfl
                have HZ9 := Lib.hid hz
                clear hz hfin hpq
                go_wp2
                refine bodyPost_ret (v := .tuple #[.agg #[.slice a0 a1 a2, .slice b0 b1 b2, .slice c0 c1 c2], .bool true]) (by simp [results, Tryz.results8, go_sem, k0, k1, k2]) rfl ?_
                rw [HEQ.out]
                exact ⟨_, rfl, HB9.out.box HZ9.out, fset (fset (fset HFF.out (by omega) _) (by omega) _) (by omega) _⟩
            exact hd_nil
          exact hd_nil
        refine hd_cons (i := 10) rfl (by kernel_rfl) (fun K hK => ?_) ?_
        · skip
          go_simp
          obtain ⟨x2, hx2⟩ : ∃ W, W = x1.alloc (.cells #[.slice none 0 0, .slice none 0 0, .slice none 0 0] 41) := ⟨_, rfl⟩
          rw [← hx2]
          obtain ⟨bx, hbxe⟩ : ∃ b, b = x1.heap.size := ⟨_, rfl⟩
          have hbx : RowAt x2 bx 41 [.slice none 0 0, .slice none 0 0, .slice none 0 0] := by rw [hx2, hbxe]; exact RowAt.new _ _ _
          have hbz : w2.heap.size ≤ bx := by rw [hbxe]; exact f1.size
          have hb : Fresh x1 x2 := by rw [hx2]; exact fnew (frefl _) _
          rw [← hbxe]
          clear hx2 hbxe
          have f2 : Fresh w2 x2 := fstep f1 hb
          clear hb
          refine hK.out _ _ ?_ (fun hHeld => ?_)
          · exact kq7 HSS f2
          clear hK K
          try simp only [Act.put, List.getElem_toArray, List.getElem_cons_succ, List.getElem_cons_zero, List.setIfInBounds_toArray, List.set_cons_zero, List.set_cons_succ]
          refine hd_ready (rs := [4]) (by kernel_rfl) (by simp) ?_
          refine hd_cons (i := 4) rfl (by kernel_rfl) (fun K hK => ?_) ?_
          · skip
            go_simp
            go_at_call 36
            refine (HWO.out x2 f2).mono ?_
            rintro e x3 ⟨v4, rfl, ho4, hb⟩
            have f3 : Fresh w2 x3 := fstep f2 hb
            replace hbx := hbx.keep hb
            clear hb
            go_wp2_with fail
            refine hK.out _ _ ?_ (fun hHeld => ?_)
            · exact kq7 HSS f3
            clear hK K
            try simp only [Act.put, List.getElem_toArray, List.getElem_cons_succ, List.getElem_cons_zero, List.setIfInBounds_toArray, List.set_cons_zero, List.set_cons_succ]
            refine hd_ready (rs := [9]) (by kernel_rfl) (by simp) ?_
            refine hd_cons (i := 9) rfl (by kernel_rfl) (fun K hK => ?_) ?_
            · skip
              go_simp
              go_at_call 35
              refine (HPU.out x3 v4 ho4 f3).mono ?_
              rintro e x4 ⟨v9, rfl, ho9, hb⟩
              clear ho4
              have f4 : Fresh w2 x4 := fstep f3 hb
              replace hbx := hbx.keep hb
              clear hb
              go_wp2_with fail
              refine hK.out _ _ ?_ (fun hHeld => ?_)
              · exact kq7 HSS f4
              clear hK K
              try simp only [Act.put, List.getElem_toArray, List.getElem_cons_succ, List.getElem_cons_zero, List.setIfInBounds_toArray, List.set_cons_zero, List.set_cons_succ]
              refine hd_done (by kernel_rfl) ?_
              clear hHeld
              simp only [List.drop_succ_cons, List.drop_zero]
              obtain ⟨a0, a1, a2, b0, b1, b2, c0, c1, c2, hvv⟩ := ho9.shape
              subst hvv
              have g0 := hbx.cell (i := 0) rfl
              have g1 := hbx.cell (i := 1) rfl
              have g2 := hbx.cell (i := 2) rfl
              have g3 := hbx.frozen 0
              have g4 := hbx.frozen 1
              have g5 := hbx.frozen 2
              obtain ⟨X, hX⟩ : ∃ X, X = ((x4.setCell ⟨bx, 0, none⟩ (.slice a0 a1 a2)).setCell ⟨bx, 1, none⟩ (.slice b0 b1 b2)).setCell ⟨bx, 2, none⟩ (.slice c0 c1 c2) := ⟨_, rfl⟩
              have hrx : RowAt X bx 41 [.slice a0 a1 a2, .slice b0 b1 b2, .slice c0 c1 c2] := by rw [hX]; exact ((hbx.set 0 _).set 1 _).set 2 _
              have hox : PlOwn X w.heap.size (.agg #[.slice a0 a1 a2, .slice b0 b1 b2, .slice c0 c1 c2]) Q := by rw [hX]; exact ho9.box hbx
              have hbw : w.heap.size ≤ bx := by omega
              have hne : w.heap.size + 1 + 1 + 1 ≠ bx := by omega
              have hzx : RowAt X (w.heap.size + 1 + 1 + 1) 41 [.slice none 0 0, .slice none 0 0, .slice none 0 0] := by rw [hX]; exact (((HZ2.out.keep f4).setOther hne _).setOther hne _).setOther hne _
              have hfx : Fresh w X := by rw [hX]; exact fset (fset (fset (fstep HFF.out f4) hbw _) hbw _) hbw _
              have HOX := Lib.hid hox
              have HRX := Lib.hid hrx
              have HZX := Lib.hid hzx
              have HFX := Lib.hid hfx
              have HX := Lib.hid hX
              have HC9 := Lib.hid (HCG.out X _ hox)
              clear hox hrx hzx hfx hX ho9 hbx f0 f1 f2 f3 f4 HSS
              go_wp2_with fail
              rw [← HX.out]
              refine (HC9.out).mono ?_
              rintro e w9 ⟨rfl, hb9⟩
              have hz := HZX.out.keep hb9
              have HB9 := Lib.hid (HOX.out.keep hb9)
              have HFF := Lib.hid (fstep HFX.out hb9)
              have l0 := (HRX.out.keep hb9).cell (i := 0) rfl
              have l1 := (HRX.out.keep hb9).cell (i := 1) rfl
              have l2 := (HRX.out.keep hb9).cell (i := 2) rfl
              clear hb9 HC9 g0 g1 g2 g3 g4 g5
              cases hpq : planB Q
              · have HEQ : Hid (RM = (zeroP, false)) := by show _ = _; rw [HE.out, okF_no hpq]
                have HE := HEQ
                have x0 := hz.cell (i := 0) rfl
                have x1 := hz.cell (i := 1) rfl
                have x2 := hz.cell (i := 2) rfl
                have u0 := hz.frozen 0
                have u1 := hz.frozen 1
                have u2 := hz.frozen 2
                have hfin := ((hz.set 0 (.slice none 0 0)).set 1 (.slice none 0 0)).set 2 (.slice none 0 0)
                have k0 := hfin.cell (i := 0) rfl
                have k1 := hfin.cell (i := 1) rfl
                have k2 := hfin.cell (i := 2) rfl
                clear hz hfin hpq
                go_wp2
                refine bodyPost_ret (v := .tuple #[.agg #[.slice none 0 0, .slice none 0 0, .slice none 0 0], .bool false]) (by simp [results, Tryz.results8, go_sem, k0, k1, k2]) rfl ?_
                rw [HE.out]
                exact ⟨_, rfl, zeroP_own _ _, fset (fset (fset HFF.out (by omega) _) (by omega) _) (by omega) _⟩
              · have HEQ : Hid (RM = (Q, true)) := by show _ = _; rw [HE.out, okF_yes hpq]
                have x0 := hz.cell (i := 0) rfl
                have x1 := hz.cell (i := 1) rfl
                have x2 := hz.cell (i := 2) rfl
                have u0 := hz.frozen 0
                have u1 := hz.frozen 1
                have u2 := hz.frozen 2
                have hfin := ((hz.set 0 (.slice a0 a1 a2)).set 1 (.slice b0 b1 b2)).set 2 (.slice c0 c1 c2)
                have k0 := hfin.cell (i := 0) rfl
                have k1 := hfin.cell (i := 1) rfl
                have k2 := hfin.cell (i := 2) rfl
                have HZ9 := Lib.hid hz
                clear hz hfin hpq
                go_wp2
                refine bodyPost_ret (v := .tuple #[.agg #[.slice a0 a1 a2, .slice b0 b1 b2, .slice c0 c1 c2], .bool true]) (by simp [results, Tryz.results8, go_sem, k0, k1, k2]) rfl ?_
                rw [HEQ.out]
                exact ⟨_, rfl, HB9.out.box HZ9.out, fset (fset (fset HFF.out (by omega) _) (by omega) _) (by omega) _⟩
            exact hd_nil
          exact hd_nil
        exact hd_nil
      refine hd_cons (i := 10) rfl (by kernel_rfl) (fun K hK => ?_) ?_
      · skip
        go_simp
        obtain ⟨x1, hx1⟩ : ∃ W, W = x0.alloc (.cells #[.slice none 0 0, .slice none 0 0, .slice none 0 0] 41) := ⟨_, rfl⟩
        rw [← hx1]
        obtain ⟨bx, hbxe⟩ : ∃ b, b = x0.heap.size := ⟨_, rfl⟩
        have hbx : RowAt x1 bx 41 [.slice none 0 0, .slice none 0 0, .slice none 0 0] := by rw [hx1, hbxe]; exact RowAt.new _ _ _
        have hbz : w2.heap.size ≤ bx := by rw [hbxe]; exact f0.size
        have hb : Fresh x0 x1 := by rw [hx1]; exact fnew (frefl _) _
        rw [← hbxe]
        clear hx1 hbxe
        have f1 : Fresh w2 x1 := fstep f0 hb
        clear hb
        refine hK.out _ _ ?_ (fun hHeld => ?_)
        · exact kq7 HSS f1
        clear hK K
        try simp only [Act.put, List.getElem_toArray, List.getElem_cons_succ, List.getElem_cons_zero, List.setIfInBounds_toArray, List.set_cons_zero, List.set_cons_succ]
        refine hd_ready (rs := [3]) (by kernel_rfl) (by simp) ?_
        refine hd_cons (i := 3) rfl (by kernel_rfl) (fun K hK => ?_) ?_
        · skip
          go_simp
          go_at_call 34
          refine (HCF2.out x1 f1).mono ?_
          rintro e x2 ⟨rfl, hb⟩
          have f2 : Fresh w2 x2 := fstep f1 hb
          replace hbx := hbx.keep hb
          clear hb
          go_wp2_with fail
          refine hK.out _ _ ?_ (fun hHeld => ?_)
          · exact kq7 HSS f2
          clear hK K
          try simp only [Act.put, List.getElem_toArray, List.getElem_cons_succ, List.getElem_cons_zero, List.setIfInBounds_toArray, List.set_cons_zero, List.set_cons_succ]
          refine hd_ready (rs := [4]) (by kernel_rfl) (by simp) ?_
          refine hd_cons (i := 4) rfl (by kernel_rfl) (fun K hK => ?_) ?_
          · skip
            go_simp
            go_at_call 36
            refine (HWO.out x2 f2).mono ?_
            rintro e x3 ⟨v4, rfl, ho4, hb⟩
            have f3 : Fresh w2 x3 := fstep f2 hb
            replace hbx := hbx.keep hb
            clear hb
            go_wp2_with fail
            refine hK.out _ _ ?_ (fun hHeld => ?_)
            · exact kq7 HSS f3
            clear hK K
            try simp only [Act.put, List.getElem_toArray, List.getElem_cons_succ, List.getElem_cons_zero, List.setIfInBounds_toArray, List.set_cons_zero, List.set_cons_succ]
            refine hd_ready (rs := [9]) (by kernel_rfl) (by simp) ?_
            refine hd_cons (i := 9) rfl (by kernel_rfl) (fun K hK => ?_) ?_
            · skip
              go_simp
              go_at_call 35
              refine (HPU.out x3 v4 ho4 f3).mono ?_
              rintro e x4 ⟨v9, rfl, ho9, hb⟩
              clear ho4
              have f4 : Fresh w2 x4 := fstep f3 hb
              replace hbx := hbx.keep hb
              clear hb
              go_wp2_with fail
              refine hK.out _ _ ?_ (fun hHeld => ?_)
              · exact kq7 HSS f4
              clear hK K
              try simp only [Act.put, List.getElem_toArray, List.getElem_cons_succ, List.getElem_cons_zero, List.setIfInBounds_toArray, List.set_cons_zero, List.set_cons_succ]
              refine hd_done (by kernel_rfl) ?_
              clear hHeld
              simp only [List.drop_succ_cons, List.drop_zero]
              obtain ⟨a0, a1, a2, b0, b1, b2, c0, c1, c2, hvv⟩ := ho9.shape
              subst hvv
              have g0 := hbx.cell (i := 0) rfl
              have g1 := hbx.cell (i := 1) rfl
              have g2 := hbx.cell (i := 2) rfl
              have g3 := hbx.frozen 0
              have g4 := hbx.frozen 1
              have g5 := hbx.frozen 2
              obtain ⟨X, hX⟩ : ∃ X, X = ((x4.setCell ⟨bx, 0, none⟩ (.slice a0 a1 a2)).setCell ⟨bx, 1, none⟩ (.slice b0 b1 b2)).setCell ⟨bx, 2, none⟩ (.slice c0 c1 c2) := ⟨_, rfl⟩
              have hrx : RowAt X bx 41 [.slice a0 a1 a2, .slice b0 b1 b2, .slice c0 c1 c2] := by rw [hX]; exact ((hbx.set 0 _).set 1 _).set 2 _
              have hox : PlOwn X w.heap.size (.agg #[.slice a0 a1 a2, .slice b0 b1 b2, .slice c0 c1 c2]) Q := by rw [hX]; exact ho9.box hbx
              have hbw : w.heap.size ≤ bx := by omega
              have hne : w.heap.size + 1 + 1 + 1 ≠ bx := by omega
              have hzx : RowAt X (w.heap.size + 1 + 1 + 1) 41 [.slice none 0 0, .slice none 0 0, .slice none 0 0] := by rw [hX]; exact (((HZ2.out.keep f4).setOther hne _).setOther hne _).setOther hne _
              have hfx : Fresh w X := by rw [hX]; exact fset (fset (fset (fstep HFF.out f4) hbw _) hbw _) hbw _
              have HOX := Lib.hid hox
              have HRX := Lib.hid hrx
              have HZX := Lib.hid hzx
              have HFX := Lib.hid hfx
              have HX := Lib.hid hX
              have HC9 := Lib.hid (HCG.out X _ hox)
              clear hox hrx hzx hfx hX ho9 hbx f0 f1 f2 f3 f4 HSS
              go_wp2_with fail
              rw [← HX.out]
              refine (HC9.out).mono ?_
              rintro e w9 ⟨rfl, hb9⟩
              have hz := HZX.out.keep hb9
              have HB9 := Lib.hid (HOX.out.keep hb9)
              have HFF := Lib.hid (fstep HFX.out hb9)
              have l0 := (HRX.out.keep hb9).cell (i := 0) rfl
              have l1 := (HRX.out.keep hb9).cell (i := 1) rfl
              have l2 := (HRX.out.keep hb9).cell (i := 2) rfl
              clear hb9 HC9 g0 g1 g2 g3 g4 g5
              cases hpq : planB Q
              · have HEQ : Hid (RM = (zeroP, false)) := by show _ = _; rw [HE.out, okF_no hpq]
                have HE := HEQ
                have x0 := hz.cell (i := 0) rfl
                have x1 := hz.cell (i := 1) rfl
                have x2 := hz.cell (i := 2) rfl
                have u0 := hz.frozen 0
                have u1 := hz.frozen 1
                have u2 := hz.frozen 2
                have hfin := ((hz.set 0 (.slice none 0 0)).set 1 (.slice none 0 0)).set 2 (.slice none 0 0)
                have k0 := hfin.cell (i := 0) rfl
                have k1 := hfin.cell (i := 1) rfl
                have k2 := hfin.cell (i := 2) rfl
                clear hz hfin hpq
                go_wp2
                refine bodyPost_ret (v := .tuple #[.agg #[.slice none 0 0, .slice none 0 0, .slice none 0 0], .bool false]) (by simp [results, Tryz.results8, go_sem, k0, k1, k2]) rfl ?_
                rw [HE.out]
                exact ⟨_, rfl, zeroP_own _ _, fset (fset (fset HFF.out (by omega) _) (by omega) _) (by omega) _⟩
              · have HEQ : Hid (RM = (Q, true)) := by show _ = _; rw [HE.out, okF_yes hpq]
                have x0 := hz.cell (i := 0) rfl
                have x1 := hz.cell (i := 1) rfl
                have x2 := hz.cell (i := 2) rfl
                have u0 := hz.frozen 0
                have u1 := hz.frozen 1
                have u2 := hz.frozen 2
                have hfin := ((hz.set 0 (.slice a0 a1 a2)).set 1 (.slice b0 b1 b2)).set 2 (.slice c0 c1 c2)
                have k0 := hfin.cell (i := 0) rfl
                have k1 := hfin.cell (i := 1) rfl
                have k2 := hfin.cell (i := 2) rfl
                have HZ9 := Lib.hid hz
                clear hz hfin hpq
                go_wp2
                refine bodyPost_ret (v := .tuple #[.agg #[.slice a0 a1 a2, .slice b0 b1 b2, .slice c0 c1 c2], .bool true]) (by simp [results, Tryz.results8, go_sem, k0, k1, k2]) rfl ?_
                rw [HEQ.out]
                exact ⟨_, rfl, HB9.out.box HZ9.out, fset (fset (fset HFF.out (by omega) _) (by omega) _) (by omega) _⟩
            exact hd_nil
          exact hd_nil
        exact hd_nil
      exact hd_nil
theorem implMoveLight_l (v : Value) (P : PlanV) (id : Int) (vr : Value) (R : Int × List Int) (b : Int × Int) (w : World) (h : PlIn w v P) (hR : RtIn w vr R) : Calls Tryz.prog 12 #[v, .int .i64 id, vr, .agg #[.int .i64 b.1, .int .i64 b.2]] w fun e w' => ∃ v', e = .returned (.tuple #[v', .bool (mvF P id R b).2]) ∧ PlOwn w' w.heap.size v' (mvF P id R b).1 ∧ Fresh w w' := implMoveLight_any v vr P id R b w h hR
theorem specMoveLight_l (v : Value) (P : PlanV) (id : Int) (vr : Value) (R : Int × List Int) (b : Int × Int) (w : World) (h : PlIn w v P) (hR : RtIn w vr R) : Calls Tryz.prog 8 #[v, .int .i64 id, vr, .agg #[.int .i64 b.1, .int .i64 b.2]] w fun e w' => ∃ v', e = .returned (.tuple #[v', .bool (mvF P id R b).2]) ∧ PlOwn w' w.heap.size v' (mvF P id R b).1 ∧ Fresh w w' := specMoveLight_any v vr P id R b w h hR
end Go.Proofs.YtgiinjleehgkoaaGreat
