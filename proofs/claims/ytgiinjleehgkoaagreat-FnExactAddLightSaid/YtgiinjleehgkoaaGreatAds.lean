/- Contracts: AddLight, both sides. -/
import Derived.Test.YtgiinjleehgkoaaGreatWl
import Derived.Test.YtgiinjleehgkoaaGreatMv
import Derived.Test.YtgiinjleehgkoaaGreatPt
namespace Go.Proofs.YtgiinjleehgkoaaGreat
open Go.RowKit Go.PlainAid

theorem LgIn.isSm {w : World} {v : Value} {X : LtV} (h : LgIn w v X) : X.2.1.2.length ≤ 1048576 := by
  obtain ⟨x, _, _, h2, rfl⟩ := h
  exact h2
theorem ins_small {P : PlanV} {X : LtV} (hs : PlSmall P) (h12 : P.lights.length ≤ 12) (hx : X.2.1.2.length ≤ 1048576) : PlSmall ⟨P.net, insF P.lights X⟩ := by
  refine ⟨hs.1, ⟨by show (insF P.lights X).length ≤ _; rw [ins_len]; omega, fun y hy => ?_⟩⟩
  rcases mem_ins hy with h1 | h1
  · rw [h1]; exact hx
  · exact hs.2.2 y h1
set_option maxHeartbeats 4000000 in
set_option maxRecDepth 100000 in
theorem implAddLight_any (v : Value) (P : PlanV) (u : Value) (X : LtV) (w : World) (h : PlIn w v P) (hx : LgIn w u X) : Calls Tryz.prog 27 #[v, u] w fun e w' => ∃ v', e = .returned (.tuple #[v', .bool (adF P X).2]) ∧ PlOwn w' w.heap.size v' (adF P X).1 ∧ Fresh w w' := by
  have HP := Lib.hid h
  have hsm := h.isSmall
  have HSM := Lib.hid hsm
  obtain ⟨q, m, c, p, k, d, r, i0, e0, rfl⟩ := h.shape
  have hxs := hx.isSm
  have HXS := Lib.hid hxs
  obtain ⟨⟨xi, ⟨xs, xq, xcap, xl⟩, xf, xn⟩, rfl, hxI, hxn, rfl⟩ := hx
  simp only at hxI hxn ⊢
  obtain ⟨W2, hW2, hsz2, hf2, r1, r2, r3⟩ := three_rows w [.slice q m c, .slice p k d, .slice r i0 e0] [.int .i64 xi, .int .i64 xs, .slice xq xl.length xcap, .int .i64 xf, .int .i64 xn] [.slice none 0 0, .slice none 0 0, .slice none 0 0] 41 69 41
  obtain ⟨XV, hXV⟩ : ∃ X : LtV, X = LL.val ⟨xi, ⟨xs, xq, xcap, xl⟩, xf, xn⟩ := ⟨_, rfl⟩
  have HLG : Hid (∀ W, Fresh W2 W → LgIn W (.agg #[.int .i64 xi, .int .i64 xs, .slice xq xl.length xcap, .int .i64 xf, .int .i64 xn]) XV) := fun W hW => ⟨⟨xi, ⟨xs, xq, xcap, xl⟩, xf, xn⟩, rfl, hxI.keep (fstep hf2 hW), hxn, hXV⟩
  have HC := Lib.hid (implIsValidPlan_any _ P W2 (HP.out.keep hf2))
  have HF2 := Lib.hid hf2
  have HR1 := Lib.hid r1
  have HR2 := Lib.hid r2
  have HR3 := Lib.hid r3
  have HW2 := Lib.hid hW2
  have hsz := hf2.size
  obtain ⟨RM, hRM⟩ : ∃ R, R = adF P XV := ⟨_, rfl⟩
  have hRM' : RM = adF P (LL.val ⟨xi, ⟨xs, xq, xcap, xl⟩, xf, xn⟩) := by rw [hRM, hXV]
  rw [← hRM']
  have HRM := Lib.hid hRM
  have HXV := Lib.hid hXV
  clear h hsm hxs hf2 r1 r2 r3 hW2 hRM hRM' hXV hxI
  go_enter Tryz.func27, Tryz.ntmps27
  go_wp2_with fail
  rw [← HW2.out]
  refine (HC.out).mono ?_
  rintro e w1 ⟨rfl, hb⟩
  have HB := Lib.hid hb
  have hszb := hb.size
  have hz := HR3.out.keep hb
  have y0 := (HR1.out.keep hb).cell (i := 0) rfl
  have y1 := (HR1.out.keep hb).cell (i := 1) rfl
  have y2 := (HR1.out.keep hb).cell (i := 2) rfl
  have z0 := (HR2.out.keep hb).cell (i := 0) rfl
  have z1 := (HR2.out.keep hb).cell (i := 1) rfl
  have z2 := (HR2.out.keep hb).cell (i := 2) rfl
  have z3 := (HR2.out.keep hb).cell (i := 3) rfl
  have z4 := (HR2.out.keep hb).cell (i := 4) rfl
  have HZ1 := Lib.hid hz
  cases hpl : planB P
  · have HE : Hid (RM = (zeroP, false)) := by show _ = _; rw [HRM.out, adF_no hpl]
    have x0 := hz.cell (i := 0) rfl
    have x1 := hz.cell (i := 1) rfl
    have x2 := hz.cell (i := 2) rfl
    have u0 := hz.frozen 0
    have u1 := hz.frozen 1
    have u2 := hz.frozen 2
    have hfin := ((hz.set 0 (.slice none 0 0)).set 1 (.slice none 0 0)).set 2 (.slice none 0 0)
    have k0 := hfin.cell (i := 0) rfl
    have k1 := hfin.cell (i := 1) rfl
    have k2 := hfin.cell (i := 2) rfl
    have HFF := Lib.hid (fstep HF2.out hb)
    clear hz hb hfin HC hpl
    go_wp2
    refine bodyPost_ret (v := .tuple #[.agg #[.slice none 0 0, .slice none 0 0, .slice none 0 0], .bool false]) (by simp [results, Tryz.results27, go_sem, k0, k1, k2]) rfl ?_
    rw [HE.out]
    exact ⟨_, rfl, zeroP_own _ _, fset (fset (fset HFF.out (by omega) _) (by omega) _) (by omega) _⟩
  · obtain ⟨Q, hQ⟩ : ∃ Q : PlanV, Q = ⟨P.net, insF P.lights XV⟩ := ⟨_, rfl⟩
    have HE : Hid (RM = okF Q) := by show _ = _; rw [HRM.out, adF_yes hpl, hQ]
    have h12 := (planB_at hpl).2.1
    have HQS : Hid (PlSmall Q) := by show PlSmall Q; rw [hQ]; exact ins_small HSM.out h12 (by rw [HXV.out]; exact hxn)
    have HC2 := Lib.hid (withLight_any _ _ P XV w1 (HP.out.keep (fstep HF2.out hb)) (HLG.out w1 hb) (by omega))
    rw [← hQ] at HC2
    have HFB := Lib.hid (fstep HF2.out hb)
    clear hb HC hpl hQ hz
    go_wp2_with fail
    refine (HC2.out).mono ?_
    rintro e w2 ⟨v1, rfl, ho, hb⟩
    have HF3 := Lib.hid (fstep HFB.out hb)
    have HZ2 := Lib.hid (HZ1.out.keep hb)
    have hszb2 := hb.size
    have HC3 := Lib.hid (planIf_any v1 Q w1.heap.size w2 ho HQS.out)
    clear ho hb HC2 y0 y1 y2 z0 z1 z2 z3 z4
    go_wp2_with fail
    refine (HC3.out).mono ?_
    rintro e w3 ⟨v2, rfl, ho, hb⟩
    obtain ⟨a0, a1, a2, b0, b1, b2, c0, c1, c2, rfl⟩ := ho.shape
    have hz := HZ2.out.keep hb
    have x0 := hz.cell (i := 0) rfl
    have x1 := hz.cell (i := 1) rfl
    have x2 := hz.cell (i := 2) rfl
    have u0 := hz.frozen 0
    have u1 := hz.frozen 1
    have u2 := hz.frozen 2
    have hfin := ((hz.set 0 (.slice a0 a1 a2)).set 1 (.slice b0 b1 b2)).set 2 (.slice c0 c1 c2)
    have k0 := hfin.cell (i := 0) rfl
    have k1 := hfin.cell (i := 1) rfl
    have k2 := hfin.cell (i := 2) rfl
    have HO := Lib.hid (ho.mono (Nat.le_trans hsz hszb))
    have HZ := Lib.hid hz
    have HFF := Lib.hid (fstep HF3.out hb)
    clear ho hz hb hfin HC3
    go_wp2
    refine bodyPost_ret (v := .tuple #[.agg #[.slice a0 a1 a2, .slice b0 b1 b2, .slice c0 c1 c2], .bool (okF Q).2]) (by simp [results, Tryz.results27, go_sem, k0, k1, k2]) rfl ?_
    rw [HE.out]
    exact ⟨_, rfl, HO.out.box HZ.out, fset (fset (fset HFF.out (by omega) _) (by omega) _) (by omega) _⟩
set_option maxHeartbeats 4000000 in
set_option maxRecDepth 100000 in
theorem specAddLight_any (v : Value) (P : PlanV) (u : Value) (X : LtV) (w : World) (h : PlIn w v P) (hx : LgIn w u X) : Calls Tryz.prog 25 #[v, u] w fun e w' => ∃ v', e = .returned (.tuple #[v', .bool (adF P X).2]) ∧ PlOwn w' w.heap.size v' (adF P X).1 ∧ Fresh w w' := by
  have HP := Lib.hid h
  have hsm := h.isSmall
  have HSM := Lib.hid hsm
  obtain ⟨q, m, c, p, k, d, r, i0, e0, rfl⟩ := h.shape
  have hxs := hx.isSm
  have HXS := Lib.hid hxs
  obtain ⟨⟨xi, ⟨xs, xq, xcap, xl⟩, xf, xn⟩, rfl, hxI, hxn, rfl⟩ := hx
  simp only at hxI hxn ⊢
  obtain ⟨W2, hW2, hsz2, hf2, r1, r2, r3⟩ := three_rows w [.slice q m c, .slice p k d, .slice r i0 e0] [.int .i64 xi, .int .i64 xs, .slice xq xl.length xcap, .int .i64 xf, .int .i64 xn] [.slice none 0 0, .slice none 0 0, .slice none 0 0] 41 69 41
  obtain ⟨XV, hXV⟩ : ∃ X : LtV, X = LL.val ⟨xi, ⟨xs, xq, xcap, xl⟩, xf, xn⟩ := ⟨_, rfl⟩
  have HLG : Hid (∀ W, Fresh W2 W → LgIn W (.agg #[.int .i64 xi, .int .i64 xs, .slice xq xl.length xcap, .int .i64 xf, .int .i64 xn]) XV) := fun W hW => ⟨⟨xi, ⟨xs, xq, xcap, xl⟩, xf, xn⟩, rfl, hxI.keep (fstep hf2 hW), hxn, hXV⟩
  have HC := Lib.hid (l9Good_any _ P W2 (HP.out.keep hf2))
  have HF2 := Lib.hid hf2
  have HR1 := Lib.hid r1
  have HR2 := Lib.hid r2
  have HR3 := Lib.hid r3
  have HW2 := Lib.hid hW2
  have hsz := hf2.size
  obtain ⟨RM, hRM⟩ : ∃ R, R = adF P XV := ⟨_, rfl⟩
  have hRM' : RM = adF P (LL.val ⟨xi, ⟨xs, xq, xcap, xl⟩, xf, xn⟩) := by rw [hRM, hXV]
  rw [← hRM']
  have HRM := Lib.hid hRM
  have HXV := Lib.hid hXV
  clear h hsm hxs hf2 r1 r2 r3 hW2 hRM hRM' hXV hxI
  go_enter Tryz.func25, Tryz.ntmps25
  go_wp2_with fail
  rw [← HW2.out]
  refine (HC.out).mono ?_
  rintro e w1 ⟨rfl, hb⟩
  have HB := Lib.hid hb
  have hszb := hb.size
  have hz := HR3.out.keep hb
  have y0 := (HR1.out.keep hb).cell (i := 0) rfl
  have y1 := (HR1.out.keep hb).cell (i := 1) rfl
  have y2 := (HR1.out.keep hb).cell (i := 2) rfl
  have z0 := (HR2.out.keep hb).cell (i := 0) rfl
  have z1 := (HR2.out.keep hb).cell (i := 1) rfl
  have z2 := (HR2.out.keep hb).cell (i := 2) rfl
  have z3 := (HR2.out.keep hb).cell (i := 3) rfl
  have z4 := (HR2.out.keep hb).cell (i := 4) rfl
  have HZ1 := Lib.hid hz
  cases hpl : planB P
  · have HE : Hid (RM = (zeroP, false)) := by show _ = _; rw [HRM.out, adF_no hpl]
    have x0 := hz.cell (i := 0) rfl
    have x1 := hz.cell (i := 1) rfl
    have x2 := hz.cell (i := 2) rfl
    have u0 := hz.frozen 0
    have u1 := hz.frozen 1
    have u2 := hz.frozen 2
    have hfin := ((hz.set 0 (.slice none 0 0)).set 1 (.slice none 0 0)).set 2 (.slice none 0 0)
    have k0 := hfin.cell (i := 0) rfl
    have k1 := hfin.cell (i := 1) rfl
    have k2 := hfin.cell (i := 2) rfl
    have HFF := Lib.hid (fstep HF2.out hb)
    clear hz hb hfin HC hpl
    go_wp2
    refine bodyPost_ret (v := .tuple #[.agg #[.slice none 0 0, .slice none 0 0, .slice none 0 0], .bool false]) (by simp [results, Tryz.results25, go_sem, k0, k1, k2]) rfl ?_
    rw [HE.out]
    exact ⟨_, rfl, zeroP_own _ _, fset (fset (fset HFF.out (by omega) _) (by omega) _) (by omega) _⟩
  · obtain ⟨Q, hQ⟩ : ∃ Q : PlanV, Q = ⟨P.net, insF P.lights XV⟩ := ⟨_, rfl⟩
    have HE : Hid (RM = okF Q) := by show _ = _; rw [HRM.out, adF_yes hpl, hQ]
    have h12 := (planB_at hpl).2.1
    have HQS : Hid (PlSmall Q) := by show PlSmall Q; rw [hQ]; exact ins_small HSM.out h12 (by rw [HXV.out]; exact hxn)
    have HC2 := Lib.hid (l9Put_any _ _ P XV w1 (HP.out.keep (fstep HF2.out hb)) (HLG.out w1 hb) (by omega))
    rw [← hQ] at HC2
    have HFB := Lib.hid (fstep HF2.out hb)
    clear hb HC hpl hQ hz
    go_wp2_with fail
    refine (HC2.out).mono ?_
    rintro e w2 ⟨v1, rfl, ho, hb⟩
    obtain ⟨a0, a1, a2, b0, b1, b2, c0, c1, c2, rfl⟩ := ho.shape
    obtain ⟨W3, hW3⟩ : ∃ W, W = w2.alloc (.cells #[.slice a0 a1 a2, .slice b0 b1 b2, .slice c0 c1 c2] 41) := ⟨_, rfl⟩
    have hf3 : Fresh w2 W3 := by rw [hW3]; exact fnew (frefl _) _
    have hr3 : RowAt W3 w2.heap.size 41 [.slice a0 a1 a2, .slice b0 b1 b2, .slice c0 c1 c2] := by rw [hW3]; exact RowAt.new _ _ _
    have HF3 := Lib.hid (fstep HFB.out (fstep hb hf3))
    have HZ2 := Lib.hid ((HZ1.out.keep hb).keep hf3)
    have hszb2 := hb.size
    have HB3 := Lib.hid hr3
    have HO3 := Lib.hid ((ho.mono (Nat.le_trans hsz hszb)).keep hf3)
    have HC3 := Lib.hid (l9Good_any _ Q W3 (HO3.out.plIn HQS.out))
    have HW3 := Lib.hid hW3
    clear ho hb HC2 y0 y1 y2 z0 z1 z2 z3 z4 hf3 hr3 hW3
    go_wp2_with fail
    rw [← HW3.out]
    refine (HC3.out).mono ?_
    rintro e w3 ⟨rfl, hb⟩
    have hz := HZ2.out.keep hb
    have HFF := Lib.hid (fstep HF3.out hb)
    have HO := Lib.hid (HO3.out.keep hb)
    have l0 := (HB3.out.keep hb).cell (i := 0) rfl
    have l1 := (HB3.out.keep hb).cell (i := 1) rfl
    have l2 := (HB3.out.keep hb).cell (i := 2) rfl
    clear hb HC3
    cases hpq : planB Q
    · have HEQ : Hid (RM = (zeroP, false)) := by show _ = _; rw [HE.out, okF_no hpq]
      have HE := HEQ
      have x0 := hz.cell (i := 0) rfl
      have x1 := hz.cell (i := 1) rfl
      have x2 := hz.cell (i := 2) rfl
      have u0 := hz.frozen 0
      have u1 := hz.frozen 1
      have u2 := hz.frozen 2
      have hfin := ((hz.set 0 (.slice none 0 0)).set 1 (.slice none 0 0)).set 2 (.slice none 0 0)
      have k0 := hfin.cell (i := 0) rfl
      have k1 := hfin.cell (i := 1) rfl
      have k2 := hfin.cell (i := 2) rfl
      clear hz hfin hpq
      go_wp2
      refine bodyPost_ret (v := .tuple #[.agg #[.slice none 0 0, .slice none 0 0, .slice none 0 0], .bool false]) (by simp [results, Tryz.results25, go_sem, k0, k1, k2]) rfl ?_
      rw [HE.out]
      exact ⟨_, rfl, zeroP_own _ _, fset (fset (fset HFF.out (by omega) _) (by omega) _) (by omega) _⟩
    · have HEQ : Hid (RM = (Q, true)) := by show _ = _; rw [HE.out, okF_yes hpq]
      have x0 := hz.cell (i := 0) rfl
      have x1 := hz.cell (i := 1) rfl
      have x2 := hz.cell (i := 2) rfl
      have u0 := hz.frozen 0
      have u1 := hz.frozen 1
      have u2 := hz.frozen 2
      have hfin := ((hz.set 0 (.slice a0 a1 a2)).set 1 (.slice b0 b1 b2)).set 2 (.slice c0 c1 c2)
      have k0 := hfin.cell (i := 0) rfl
      have k1 := hfin.cell (i := 1) rfl
      have k2 := hfin.cell (i := 2) rfl
      have HZ := Lib.hid hz
      clear hz hfin hpq
      go_wp2
      refine bodyPost_ret (v := .tuple #[.agg #[.slice a0 a1 a2, .slice b0 b1 b2, .slice c0 c1 c2], .bool true]) (by simp [results, Tryz.results25, go_sem, k0, k1, k2]) rfl ?_
      rw [HEQ.out]
      exact ⟨_, rfl, HO.out.box HZ.out, fset (fset (fset HFF.out (by omega) _) (by omega) _) (by omega) _⟩
end Go.Proofs.YtgiinjleehgkoaaGreat
