/- Contracts: RemoveLight, both sides. -/
import Derived.Test.YtmpdljcihiidaaaGreatWo2
import Derived.Test.YtmpdljcihiidaaaGreatU6
import Derived.Test.YtmpdljcihiidaaaGreatGrP
import Derived.Deep.RegionHeld3
import Derived.Deep.DeepCutAuto
namespace Go.Proofs.YtmpdljcihiidaaaGreat
open Go.RowKit Go.PlainAid

def zeroP : PlanV := ⟨⟨[], []⟩, []⟩
def rmF (P : PlanV) (id : Int) : PlanV × Bool := if planB P = true ∧ 0 ≤ findL P.lights id then (⟨P.net, P.lights.eraseIdx (findL P.lights id).toNat⟩, true) else (zeroP, false)
theorem rmF_no {P : PlanV} {id : Int} (h : ¬ (planB P = true ∧ 0 ≤ findL P.lights id)) : rmF P id = (zeroP, false) := by unfold rmF; rw [if_neg h]
theorem rmF_yes {P : PlanV} {id : Int} (h : planB P = true ∧ 0 ≤ findL P.lights id) : rmF P id = (⟨P.net, P.lights.eraseIdx (findL P.lights id).toNat⟩, true) := by unfold rmF; rw [if_pos h]
theorem zeroP_small : SmPl zeroP := ⟨⟨⟨⟨by simp [zeroP], by simp [zeroP]⟩, by simp [zeroP]⟩, ⟨by simp [zeroP], by simp [zeroP]⟩⟩, by simp [zeroP]⟩
theorem rmF_small (P : PlanV) (id : Int) (hs : PlSmall P) : SmPl (rmF P id).1 := by
  by_cases h : planB P = true ∧ 0 ≤ findL P.lights id
  · rw [rmF_yes h]
    obtain ⟨_, h12, _⟩ := planB_at h.1
    have hle : (P.lights.eraseIdx (findL P.lights id).toNat).length ≤ P.lights.length := by rw [List.length_eraseIdx]; split <;> omega
    refine ⟨⟨hs.1, ⟨Nat.le_trans hle hs.2.1, fun x hx => hs.2.2 x (mem_erase hx)⟩⟩, ?_⟩
    show (P.lights.eraseIdx _).length ≤ 1024
    omega
  · rw [rmF_no h]; exact zeroP_small
theorem findL_lt {L : List LtV} {id : Int} (h : 0 ≤ findL L id) : (findL L id).toNat < L.length := by
  obtain ⟨x, hx, _⟩ := idxP_get (l := L) (f := fun x => x.1 == id) h
  have hx' : L[(findL L id).toNat]? = some x := hx
  rcases Nat.lt_or_ge (findL L id).toNat L.length with h' | h'
  · exact h'
  · rw [List.getElem?_eq_none h'] at hx'; cases hx'
theorem kp3 {w w1 w2 : World} {b : Nat} {v0 v1 v2 : Value} (h : Fresh w w1 ∧ w1.cell? ⟨b, 0, none⟩ = some v0 ∧ w1.cell? ⟨b, 1, none⟩ = some v1 ∧ w1.cell? ⟨b, 2, none⟩ = some v2) (hb : Fresh w1 w2) : Fresh w w2 ∧ w2.cell? ⟨b, 0, none⟩ = some v0 ∧ w2.cell? ⟨b, 1, none⟩ = some v1 ∧ w2.cell? ⟨b, 2, none⟩ = some v2 :=
  ⟨fstep h.1 hb, fkeep hb h.2.1, fkeep hb h.2.2.1, fkeep hb h.2.2.2⟩
theorem s3 {w0 w : World} {b : Nat} {t : TypeId} {v0 v1 v2 : Value} (hf : Fresh w0 w) (h : RowAt w b t [v0, v1, v2]) : Fresh w0 w ∧ w.cell? ⟨b, 0, none⟩ = some v0 ∧ w.cell? ⟨b, 1, none⟩ = some v1 ∧ w.cell? ⟨b, 2, none⟩ = some v2 :=
  ⟨hf, h.cell (i := 0) rfl, h.cell (i := 1) rfl, h.cell (i := 2) rfl⟩
theorem zeroP_own (w : World) (base : Nat) : PlOwn w base (.agg #[.slice none 0 0, .slice none 0 0, .slice none 0 0]) zeroP :=
  ⟨none, 0, none, 0, none, 0, [], rfl, Or.inl ⟨rfl, rfl⟩, Or.inl ⟨rfl, rfl⟩, Or.inl ⟨rfl, rfl⟩, (by intro x hx; cases hx), (by intro i j x y _ hx; simp at hx), rfl, Nat.le_refl _, by omega, Nat.le_refl _, by omega⟩
theorem PlOwn.setO {w : World} {base g : Nat} {v : Value} {P : PlanV} {cs : List Value} (h : PlOwn w base v P) (hr : RowAt w g 51 cs) (i : Nat) (u : Value) : PlOwn (w.setCell ⟨g, i, none⟩ u) base v P := by
  obtain ⟨q, c, p, d, r, e, l, h1, h2, h3, h4, h5, h6⟩ := h
  exact ⟨q, c, p, d, r, e, l, h1, h2.setO hr (by decide) _ _, h3.setO hr (by decide) _ _, h4.setO hr (by decide) _ _, fun x hx => (h5 x hx).setO hr (by decide) _ _, h6⟩
theorem PlOwn.shape {w : World} {base : Nat} {v : Value} {P : PlanV} (h : PlOwn w base v P) : ∃ q m c p k d r i e, v = .agg #[.slice q m c, .slice p k d, .slice r i e] := by
  obtain ⟨q, c, p, d, r, e, l, h1, _⟩ := h
  exact ⟨_, _, _, _, _, _, _, _, _, h1⟩
theorem PlOwn.box {w : World} {base g : Nat} {v a b c : Value} {P : PlanV} (h : PlOwn w base v P) (hr : RowAt w g 51 [.slice none 0 0, .slice none 0 0, .slice none 0 0]) : PlOwn (((w.setCell ⟨g, 0, none⟩ a).setCell ⟨g, 1, none⟩ b).setCell ⟨g, 2, none⟩ c) base v P :=
  ((h.setO hr _ _).setO (hr.set 0 _) _ _).setO ((hr.set 0 _).set 1 _) _ _
set_option maxHeartbeats 4000000 in
set_option maxRecDepth 100000 in
theorem implRemoveLight_any (v : Value) (P : PlanV) (id : Int) (w : World) (h : PlIn w v P) : Calls Tryz.prog 25 #[v, .int .i64 id] w fun e w' => ∃ v', e = .returned (.tuple #[v', .bool (rmF P id).2]) ∧ PlOwn w' w.heap.size v' (rmF P id).1 ∧ Fresh w w' := by
  have HP := Lib.hid h
  obtain ⟨q, m, c, p, k, d, r, i0, e0, rfl⟩ := h.shape
  obtain ⟨W2, hW2, hsz2, hf2, r1, r2⟩ := two_rows w [.slice q m c, .slice p k d, .slice r i0 e0] [.slice none 0 0, .slice none 0 0, .slice none 0 0] 51 51
  have HC := Lib.hid (implLightNumber_any _ P id W2 (HP.out.keep hf2))
  have HF2 := Lib.hid hf2
  have HR1 := Lib.hid r1
  have HR2 := Lib.hid r2
  have HW2 := Lib.hid hW2
  have hsz := hf2.size
  obtain ⟨RM, hRM⟩ : ∃ R, R = rmF P id := ⟨_, rfl⟩
  rw [← hRM]
  have HRM := Lib.hid hRM
  clear h hf2 r1 r2 hW2 hRM
  by_cases hok : planB P = true ∧ 0 ≤ findL P.lights id
  · have hln : lnumF P id = (findL P.lights id, true) := by unfold lnumF; rw [if_pos hok]
    obtain ⟨i, hi⟩ : ∃ i : Nat, findL P.lights id = (i : Int) := ⟨(findL P.lights id).toNat, by have := hok.2; omega⟩
    have hil : i < P.lights.length := by have := findL_lt hok.2; rw [hi] at this; simpa using this
    have HE : Hid (RM = (⟨P.net, P.lights.eraseIdx i⟩, true)) := by show _ = _; rw [HRM.out, rmF_yes hok, hi]; simp
    rw [hln, hi] at HC
    clear hln hi hok
    go_enter Tryz.func25, Tryz.ntmps25
    go_wp2_with fail
    rw [← HW2.out]
    refine (HC.out).mono ?_
    rintro e w1 ⟨rfl, hb⟩
    have y0 := (HR1.out.keep hb).cell (i := 0) rfl
    have y1 := (HR1.out.keep hb).cell (i := 1) rfl
    have y2 := (HR1.out.keep hb).cell (i := 2) rfl
    have HB := Lib.hid hb
    have hszb := hb.size
    have HWO := Lib.hid (withoutLight_any _ P i w1 (HP.out.keep (fstep HF2.out hb)) hil)
    clear hb HC
    go_wp2_with fail
    refine (HWO.out).mono ?_
    rintro e w2 ⟨v1, rfl, ho, hb⟩
    obtain ⟨a0, a1, a2, b0, b1, b2, c0, c1, c2, rfl⟩ := ho.shape
    have hz := (HR2.out.keep HB.out).keep hb
    have x0 := hz.cell (i := 0) rfl
    have x1 := hz.cell (i := 1) rfl
    have x2 := hz.cell (i := 2) rfl
    have u0 := hz.frozen 0
    have u1 := hz.frozen 1
    have u2 := hz.frozen 2
    have hfin := ((hz.set 0 (.slice a0 a1 a2)).set 1 (.slice b0 b1 b2)).set 2 (.slice c0 c1 c2)
    have k0 := hfin.cell (i := 0) rfl
    have k1 := hfin.cell (i := 1) rfl
    have k2 := hfin.cell (i := 2) rfl
    have HO := Lib.hid (ho.mono (Nat.le_trans hsz hszb))
    have HZ := Lib.hid hz
    have HFF := Lib.hid (fstep HF2.out (fstep HB.out hb))
    clear ho hz hb hfin y0 y1 y2 HWO
    go_wp2
    refine bodyPost_ret (v := .tuple #[.agg #[.slice a0 a1 a2, .slice b0 b1 b2, .slice c0 c1 c2], .bool true]) (by simp [results, Tryz.results25, go_sem, k0, k1, k2]) rfl ?_
    rw [HE.out]
    exact ⟨_, rfl, HO.out.box HZ.out, fset (fset (fset HFF.out (by omega) _) (by omega) _) (by omega) _⟩
  · have hln : lnumF P id = (0, false) := by unfold lnumF; rw [if_neg hok]
    have HE : Hid (RM = (zeroP, false)) := by show _ = _; rw [HRM.out, rmF_no hok]
    rw [hln] at HC
    clear hln hok
    go_enter Tryz.func25, Tryz.ntmps25
    go_wp2_with fail
    rw [← HW2.out]
    refine (HC.out).mono ?_
    rintro e w1 ⟨rfl, hb⟩
    have hz := HR2.out.keep hb
    have x0 := hz.cell (i := 0) rfl
    have x1 := hz.cell (i := 1) rfl
    have x2 := hz.cell (i := 2) rfl
    have u0 := hz.frozen 0
    have u1 := hz.frozen 1
    have u2 := hz.frozen 2
    have hfin := ((hz.set 0 (.slice none 0 0)).set 1 (.slice none 0 0)).set 2 (.slice none 0 0)
    have k0 := hfin.cell (i := 0) rfl
    have k1 := hfin.cell (i := 1) rfl
    have k2 := hfin.cell (i := 2) rfl
    have HFF := Lib.hid (fstep HF2.out hb)
    clear hz hb hfin HC
    go_wp2
    refine bodyPost_ret (v := .tuple #[.agg #[.slice none 0 0, .slice none 0 0, .slice none 0 0], .bool false]) (by simp [results, Tryz.results25, go_sem, k0, k1, k2]) rfl ?_
    rw [HE.out]
    exact ⟨_, rfl, zeroP_own _ _, fset (fset (fset HFF.out (by omega) _) (by omega) _) (by omega) _⟩
set_option maxHeartbeats 4000000 in
set_option maxRecDepth 100000 in
theorem specRemoveLight_any (v : Value) (P : PlanV) (id : Int) (w : World) (h : PlIn w v P) : Calls Tryz.prog 23 #[v, .int .i64 id] w fun e w' => ∃ v', e = .returned (.tuple #[v', .bool (rmF P id).2]) ∧ PlOwn w' w.heap.size v' (rmF P id).1 ∧ Fresh w w' := by
  have HP := Lib.hid h
  obtain ⟨q, m, c, p, k, d, r, i0, e0, rfl⟩ := h.shape
  obtain ⟨W2, hW2, hsz2, hf2, r1, r2⟩ := two_rows w [.slice q m c, .slice p k d, .slice r i0 e0] [.slice none 0 0, .slice none 0 0, .slice none 0 0] 51 51
  have HC := Lib.hid (l9Good_any _ P W2 (HP.out.keep hf2))
  have HCF : Hid (∀ W, Fresh W2 W → Calls Tryz.prog 72 #[.agg #[.slice q m c, .slice p k d, .slice r i0 e0], .int .i64 id] W fun e w' => e = .returned (.int .i64 (findL P.lights id)) ∧ Fresh W w') := fun W hW => l9Find_any _ P id W (HP.out.keep (fstep hf2 hW))
  have HF2 := Lib.hid hf2
  have HR1 := Lib.hid r1
  have HR2 := Lib.hid r2
  have HW2 := Lib.hid hW2
  have hsz := hf2.size
  have hlo := (idxP_lo P.lights fun x => x.1 == id).1
  have hlo2 : -1 ≤ findL P.lights id := hlo
  obtain ⟨RM, hRM⟩ : ∃ R, R = rmF P id := ⟨_, rfl⟩
  rw [← hRM]
  have HRM := Lib.hid hRM
  clear h hf2 r1 r2 hW2 hRM hlo
  go_enter Tryz.func23, Tryz.ntmps23
  go_wp2_with fail
  rw [← HW2.out]
  refine (HC.out).mono ?_
  rintro e w1 ⟨rfl, hb⟩
  have HB := Lib.hid hb
  have hszb := hb.size
  have hz := HR2.out.keep hb
  have y0 := (HR1.out.keep hb).cell (i := 0) rfl
  have y1 := (HR1.out.keep hb).cell (i := 1) rfl
  have y2 := (HR1.out.keep hb).cell (i := 2) rfl
  have HZ1 := Lib.hid hz
  cases hpl : planB P
  · have HE : Hid (RM = (zeroP, false)) := by show _ = _; rw [HRM.out, rmF_no (by rw [hpl]; simp)]
    have x0 := hz.cell (i := 0) rfl
    have x1 := hz.cell (i := 1) rfl
    have x2 := hz.cell (i := 2) rfl
    have u0 := hz.frozen 0
    have u1 := hz.frozen 1
    have u2 := hz.frozen 2
    have hfin := ((hz.set 0 (.slice none 0 0)).set 1 (.slice none 0 0)).set 2 (.slice none 0 0)
    have k0 := hfin.cell (i := 0) rfl
    have k1 := hfin.cell (i := 1) rfl
    have k2 := hfin.cell (i := 2) rfl
    have HFF := Lib.hid (fstep HF2.out hb)
    clear hz hb hfin HC hpl
    go_wp2
    refine bodyPost_ret (v := .tuple #[.agg #[.slice none 0 0, .slice none 0 0, .slice none 0 0], .bool false]) (by simp [results, Tryz.results23, go_sem, k0, k1, k2]) rfl ?_
    rw [HE.out]
    exact ⟨_, rfl, zeroP_own _ _, fset (fset (fset HFF.out (by omega) _) (by omega) _) (by omega) _⟩
  · obtain ⟨FI, hFI⟩ : ∃ F, F = findL P.lights id := ⟨_, rfl⟩
    rw [← hFI] at HCF hlo2
    have HFI := Lib.hid hFI
    have HPL := Lib.hid hpl
    clear hFI hpl hb hz HC
    go_wp2_with fail
    refine (HCF.out _ HB.out).mono ?_
    rintro e w2 ⟨rfl, hb⟩
    have HB2 := Lib.hid (fstep HB.out hb)
    have hszb2 := hb.size
    have hz := HZ1.out.keep hb
    replace y0 := fkeep hb y0
    replace y1 := fkeep hb y1
    replace y2 := fkeep hb y2
    have HZ2 := Lib.hid hz
    have HFF := Lib.hid (fstep HF2.out HB2.out)
    have hbq := hb
    clear hb
    by_cases hneg : FI < 0
    · have HE : Hid (RM = (zeroP, false)) := by show _ = _; rw [HRM.out, rmF_no (by rw [← HFI.out]; omega)]
      have x0 := hz.cell (i := 0) rfl
      have x1 := hz.cell (i := 1) rfl
      have x2 := hz.cell (i := 2) rfl
      have u0 := hz.frozen 0
      have u1 := hz.frozen 1
      have u2 := hz.frozen 2
      have hfin := ((hz.set 0 (.slice none 0 0)).set 1 (.slice none 0 0)).set 2 (.slice none 0 0)
      have k0 := hfin.cell (i := 0) rfl
      have k1 := hfin.cell (i := 1) rfl
      have k2 := hfin.cell (i := 2) rfl
      clear hz hfin
      go_wp2
      refine bodyPost_ret (v := .tuple #[.agg #[.slice none 0 0, .slice none 0 0, .slice none 0 0], .bool false]) (by simp [results, Tryz.results23, go_sem, k0, k1, k2]) rfl ?_
      rw [HE.out]
      exact ⟨_, rfl, zeroP_own _ _, fset (fset (fset HFF.out (by omega) _) (by omega) _) (by omega) _⟩
    · obtain ⟨i, rfl⟩ : ∃ i : Nat, FI = (i : Int) := ⟨FI.toNat, by omega⟩
      have hil : i < P.lights.length := by have := findL_lt (L := P.lights) (id := id) (by rw [← HFI.out]; omega); rw [← HFI.out] at this; simpa using this
      have HE : Hid (RM = (⟨P.net, P.lights.eraseIdx i⟩, true)) := by show _ = _; rw [HRM.out, rmF_yes ⟨HPL.out, by rw [← HFI.out]; omega⟩, ← HFI.out]; simp
      have HBX := Lib.hid ((HR1.out.keep HB.out).keep hbq)
      have HWO : Hid (∀ W, Fresh W2 W → Calls Tryz.prog 73 #[.agg #[.slice q m c, .slice p k d, .slice r i0 e0], .int .i64 (i : Int)] W fun e w' => ∃ v', e = .returned v' ∧ PlOwn w' W.heap.size v' ⟨P.net, P.lights.eraseIdx i⟩ ∧ Fresh W w') := fun W hW => l9Without_any _ P i W (HP.out.keep (fstep HF2.out hW)) hil
      clear hz hlo2 hneg hbq
      have hgb : w.heap.size + 1 < w2.heap.size := HZ2.out.lt
      have hgs : w.heap.size ≤ w2.heap.size := by omega
      have HSS : Fresh w w2 ∧ w2.cell? ⟨w.heap.size, 0, none⟩ = some (.slice q m c) ∧ w2.cell? ⟨w.heap.size, 1, none⟩ = some (.slice p k d) ∧ w2.cell? ⟨w.heap.size, 2, none⟩ = some (.slice r i0 e0) := ⟨HFF.out, y0, y1, y2⟩
      clear y0 y1 y2
      go_wp2
      go_region_held3 (fun w' => Fresh w w' ∧ w'.cell? ⟨w.heap.size, 0, none⟩ = some (.slice q m c) ∧ w'.cell? ⟨w.heap.size, 1, none⟩ = some (.slice p k d) ∧ w'.cell? ⟨w.heap.size, 2, none⟩ = some (.slice r i0 e0))
        (first | with_reducible assumption | exact s3 (fset (fset (fset (fstep HFF.out (fstep hf3 hb4)) (by omega) _) (by omega) _) (by omega) _) (((hbx4.setOther (by omega) _).setOther (by omega) _).setOther (by omega) _) | with_reducible exact kp3 HSS (fstep hf3 hb4) | with_reducible exact kp3 HSS hf3 | with_reducible exact kp3 HSS (fdrew (frefl _)) | with_reducible exact kp3 HSS (frefl _))
        (first | (have _h := hf3; go_at_call 73; refine (HWO.out _ (fstep HB2.out hf3)).mono ?_; rintro e w4 ⟨v1, rfl, ho, hb4⟩; obtain ⟨a0, a1, a2, b0, b1, b2, c0, c1, c2, rfl⟩ := ho.shape; have hbx4 := (HBX.out.keep hf3).keep hb4; have hz4 := (HZ2.out.keep hf3).keep hb4; have x0 := hz4.cell (i := 0) rfl; have x1 := hz4.cell (i := 1) rfl; have x2 := hz4.cell (i := 2) rfl; have u0 := hz4.frozen 0; have u1 := hz4.frozen 1; have u2 := hz4.frozen 2) | (go_at_call 72; refine (HCF.out _ (fstep HB2.out (fdrew (frefl _)))).mono ?_; rintro e w3 ⟨rfl, hb3⟩; have hf3 : Fresh w2 w3 := fstep (fdrew (frefl _)) hb3))
      all_goals (
        have hszs : w2.heap.size ≤ w3.heap.size := hf3.size
        have HO := Lib.hid (ho.mono (Nat.le_trans hgs hszs))
        have HZ4 := Lib.hid hz4
        have HFZ := Lib.hid (fstep HFF.out (fstep hf3 hb4))
        have hfin := ((hz4.set 0 (.slice a0 a1 a2)).set 1 (.slice b0 b1 b2)).set 2 (.slice c0 c1 c2)
        have k0 := hfin.cell (i := 0) rfl
        have k1 := hfin.cell (i := 1) rfl
        have k2 := hfin.cell (i := 2) rfl
        clear ho hz4 hf3 hb4 hbx4 hfin x0 x1 x2 u0 u1 u2
        go_wp2
        refine bodyPost_ret (v := .tuple #[.agg #[.slice a0 a1 a2, .slice b0 b1 b2, .slice c0 c1 c2], .bool true]) (by simp [results, Tryz.results23, go_sem, k0, k1, k2]) rfl ?_
        rw [HE.out]
        exact ⟨_, rfl, HO.out.box HZ4.out, fset (fset (fset HFZ.out (by omega) _) (by omega) _) (by omega) _⟩)
end Go.Proofs.YtmpdljcihiidaaaGreat
