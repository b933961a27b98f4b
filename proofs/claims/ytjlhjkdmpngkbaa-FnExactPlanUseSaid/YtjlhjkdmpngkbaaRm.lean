/- Contracts: RouteMask, both sides; valid routes, the program's side. -/
import Derived.Test.YtjlhjkdmpngkbaaFm
namespace Go.Proofs.Ytjlhjkdmpngkbaa
open Go.RowKit Go.PlainAid

theorem PlIn.shapeN {w : World} {v : Value} {P : PlanV} (h : PlIn w v P) : ∃ q m c p k d r i e, v = .agg #[.slice q m c, .slice p k d, .slice r i e] ∧ NetIn w (.agg #[.slice q m c, .slice p k d]) P.net := by
  obtain ⟨q, m, c, p, k, d, r, e, l, h1, h2, _⟩ := h
  exact ⟨_, _, _, _, _, _, _, _, _, h1, h2⟩
set_option maxHeartbeats 2000000 in
theorem implRouteNodes_any (v : Value) (n : Net) (v2 : Value) (R : Int × List Int) (w : World) (h : NetIn w v n) (h2 : RtIn w v2 R) :
    Calls Try.prog 172 #[v, v2] w (OutWalk w (if netB n then visR n.nodes.length n.fibers R.1 R.2 else none)) := by
  have HN := Lib.hid h
  obtain ⟨q, m, c, p, k0, d, rfl⟩ := h.shape
  obtain ⟨s, qr, cr, fs, rfl, hI, hn, rfl⟩ := h2
  clear h
  obtain ⟨W2, hW2, hsz2, hf2, r1, r2⟩ := two_rows w [.slice q m c, .slice p k0 d] [.int .i64 s, .slice qr fs.length cr] 32 79
  have HW2 := Lib.hid hW2
  have HF2 := Lib.hid hf2
  have HR1 := Lib.hid r1
  have HR2 := Lib.hid r2
  have HI := Lib.hid (hI.keep hf2)
  clear hW2 hsz2 hf2 r1 r2 hI
  obtain ⟨o, ho⟩ : ∃ o, o = (if netB n then visR n.nodes.length n.fibers s fs else none) := ⟨_, rfl⟩
  rw [← ho]
  have HO := Lib.hid ho
  clear ho
  go_enter Try.func172, Try.ntmps172
  go_wp2_with fail
  rw [← HW2.out]
  clear HW2
  refine (implIsValidNetwork_any _ n _ (HN.out.keep HF2.out)).mono ?_
  rintro e w1 ⟨rfl, hb⟩
  have a0 := (HR1.out.keep hb).cell (i := 0) rfl
  have a1 := (HR1.out.keep hb).cell (i := 1) rfl
  have b0 := (HR2.out.keep hb).cell (i := 0) rfl
  have b1 := (HR2.out.keep hb).cell (i := 1) rfl
  have HF := Lib.hid (fstep HF2.out hb)
  have HI1 := Lib.hid (HI.out.keep hb)
  clear hb
  cases hnet : netB n
  · have HON : Hid (o = none) := by show o = none; rw [HO.out, if_neg (by simp [hnet])]
    clear hnet
    go_wp2
    go_ret2
    exact ⟨none, 0, [], by rw [HON.out]; rfl, HF.out, fun out h => by rw [HON.out] at h; cases h⟩
  · have HON : Hid (o = visR n.nodes.length n.fibers s fs) := by show o = _; rw [HO.out, if_pos hnet]
    clear hnet
    go_wp2_with fail
    refine (visited_any _ n s qr cr fs _ (HN.out.keep HF.out) HI1.out hn).mono ?_
    rintro e w2 ⟨p2, c2, xs, rfl, hb, ho⟩
    have HO2 := Lib.hid ho
    have HF2' := Lib.hid (fstep HF.out hb)
    have HSZ := Lib.hid HF.out.size
    clear hb ho a0 a1 b0 b1
    go_wp2
    go_ret2
    exact ⟨p2, c2, xs, by rw [HON.out]; rfl, HF2'.out, fun out h => by
      rw [HON.out] at h
      obtain ⟨e1, e2⟩ := HO2.out out h
      exact ⟨e1, e2.mono HSZ.out⟩⟩

set_option maxHeartbeats 2000000 in
theorem implIsValidRoute_any (v : Value) (n : Net) (v2 : Value) (R : Int × List Int) (w : World) (h : NetIn w v n) (h2 : RtIn w v2 R) :
    Calls Try.prog 128 #[v, v2] w fun e w' => e = .returned (.bool (netB n && isVis n R.1 R.2)) ∧ Fresh w w' := by
  have HN := Lib.hid h
  have HR := Lib.hid h2
  obtain ⟨q, m, c, p, k0, d, rfl⟩ := h.shape
  obtain ⟨s, qr, mr, cr, rfl⟩ := h2.shape
  clear h h2
  obtain ⟨W2, hW2, hsz2, hf2, r1, r2⟩ := two_rows w [.slice q m c, .slice p k0 d] [.int .i64 s, .slice qr mr cr] 32 79
  have HW2 := Lib.hid hW2
  have HF2 := Lib.hid hf2
  have HE : Hid ((if netB n then visR n.nodes.length n.fibers R.1 R.2 else none).isSome = (netB n && isVis n R.1 R.2)) := by
    show _ = _; unfold isVis; cases netB n <;> simp
  clear hW2 hsz2 hf2 r1 r2
  go_enter Try.func128, Try.ntmps128
  go_wp2_with fail
  rw [← HW2.out]
  clear HW2
  have hcc := implRouteNodes_any _ n _ R _ (HN.out.keep HF2.out) (HR.out.keep HF2.out)
  obtain ⟨o, ho⟩ : ∃ o, o = (if netB n then visR n.nodes.length n.fibers R.1 R.2 else none) := ⟨_, rfl⟩
  rw [← ho] at hcc HE
  clear ho
  refine hcc.mono ?_
  clear hcc
  rintro e w2 ⟨p2, c2, xs, rfl, hb, _⟩
  have HF := Lib.hid (fstep HF2.out hb)
  clear hb
  go_wp2
  go_ret
  exact ⟨ret_bool HE.out, HF.out⟩

set_option maxHeartbeats 2000000 in
theorem implRouteMask_any (v : Value) (P : PlanV) (v2 : Value) (R : Int × List Int) (w : World) (h : PlIn w v P) (h2 : RtIn w v2 R) :
    Calls Try.prog 63 #[v, v2] w fun e w' => e = .returned (.tuple #[.int .i64 (rmaskF P R).1, .bool (rmaskF P R).2]) ∧ Fresh w w' := by
  have HP := Lib.hid h
  have HR := Lib.hid h2
  obtain ⟨q, m, c, p, k0, d, r, i0, e0, rfl, hN⟩ := h.shapeN
  clear h
  have HN := Lib.hid hN
  obtain ⟨s, qr, mr, cr, rfl⟩ := h2.shape
  clear h2 hN
  obtain ⟨W2, hW2, hsz2, hf2, r1, r2⟩ := two_rows w [.slice q m c, .slice p k0 d, .slice r i0 e0] [.int .i64 s, .slice qr mr cr] 62 79
  have HW2 := Lib.hid hW2
  have HF2 := Lib.hid hf2
  have HR1 := Lib.hid r1
  have HR2 := Lib.hid r2
  clear hW2 hsz2 hf2 r1 r2
  go_enter Try.func63, Try.ntmps63
  go_wp2_with fail
  rw [← HW2.out]
  clear HW2
  refine (implIsValidPlan_any _ P _ (HP.out.keep HF2.out)).mono ?_
  rintro e w1 ⟨rfl, hb⟩
  have a0 := (HR1.out.keep hb).cell (i := 0) rfl
  have a1 := (HR1.out.keep hb).cell (i := 1) rfl
  have a2 := (HR1.out.keep hb).cell (i := 2) rfl
  have b0 := (HR2.out.keep hb).cell (i := 0) rfl
  have b1 := (HR2.out.keep hb).cell (i := 1) rfl
  have HF := Lib.hid (fstep HF2.out hb)
  clear hb
  cases hg : planB P
  · have HE : Hid (rmaskF P R = (0, false)) := by show rmaskF P R = _; unfold rmaskF; rw [if_neg (by simp [hg])]
    go_wp2
    go_ret2
    exact ⟨by rw [HE.out]; rfl, HF.out⟩
  · have hnb := (planB_at hg).1
    go_wp2_with fail
    have hcc := implIsValidRoute_any _ P.net _ R _ (HN.out.keep HF.out) (HR.out.keep HF.out)
    rw [hnb, Bool.true_and] at hcc
    refine hcc.mono ?_
    clear hcc
    rintro e w2 ⟨rfl, hb⟩
    replace a0 := fkeep hb a0
    replace a1 := fkeep hb a1
    replace a2 := fkeep hb a2
    replace b0 := fkeep hb b0
    replace b1 := fkeep hb b1
    have HF := Lib.hid (fstep HF.out hb)
    clear hb
    cases hvis : isVis P.net R.1 R.2
    · have HE : Hid (rmaskF P R = (0, false)) := by show rmaskF P R = _; unfold rmaskF; rw [if_neg (by simp [hvis])]
      clear hnb
      go_wp2
      go_ret2
      exact ⟨by rw [HE.out]; rfl, HF.out⟩
    · have HE : Hid (rmaskF P R = ((alongN P.lights R.2 : Int), true)) := by show rmaskF P R = _; unfold rmaskF; rw [if_pos ⟨hg, hvis⟩]
      have HG := Lib.hid hg
      have HVI := Lib.hid (vis_nodupF hvis).2
      clear hg hvis hnb
      go_wp2_with fail
      refine (routeMask_any _ P _ R _ (HP.out.keep HF.out) (HR.out.keep HF.out) HG.out HVI.out).mono ?_
      rintro e w3 ⟨rfl, hb⟩
      have HF := Lib.hid (fstep HF.out hb)
      clear hb a0 a1 a2 b0 b1
      go_wp2
      go_ret2
      exact ⟨by rw [HE.out]; rfl, HF.out⟩

set_option maxHeartbeats 2000000 in
theorem specRouteMask_any (v : Value) (P : PlanV) (v2 : Value) (R : Int × List Int) (w : World) (h : PlIn w v P) (h2 : RtIn w v2 R) :
    Calls Try.prog 61 #[v, v2] w fun e w' => e = .returned (.tuple #[.int .i64 (rmaskF P R).1, .bool (rmaskF P R).2]) ∧ Fresh w w' := by
  have HP := Lib.hid h
  have HR := Lib.hid h2
  obtain ⟨q, m, c, p, k0, d, r, i0, e0, rfl, hN⟩ := h.shapeN
  clear h
  have HN := Lib.hid hN
  obtain ⟨s, qr, cr, fs, rfl, hI, hn, rfl⟩ := h2
  have HI := Lib.hid hI
  clear hN hI
  obtain ⟨W2, hW2, hsz2, hf2, r1, r2⟩ := two_rows w [.slice q m c, .slice p k0 d, .slice r i0 e0] [.int .i64 s, .slice qr fs.length cr] 62 79
  have HW2 := Lib.hid hW2
  have HF2 := Lib.hid hf2
  have HR1 := Lib.hid r1
  have HR2 := Lib.hid r2
  clear hW2 hsz2 hf2 r1 r2
  go_enter Try.func61, Try.ntmps61
  go_wp2_with fail
  rw [← HW2.out]
  clear HW2
  refine (l9Good_any _ P _ (HP.out.keep HF2.out)).mono ?_
  rintro e w1 ⟨rfl, hb⟩
  have a0 := (HR1.out.keep hb).cell (i := 0) rfl
  have a1 := (HR1.out.keep hb).cell (i := 1) rfl
  have a2 := (HR1.out.keep hb).cell (i := 2) rfl
  have b0 := (HR2.out.keep hb).cell (i := 0) rfl
  have b1 := (HR2.out.keep hb).cell (i := 1) rfl
  have HF := Lib.hid (fstep HF2.out hb)
  clear hb
  cases hg : planB P
  · have HE : Hid (rmaskF P (s, fs) = (0, false)) := by show rmaskF P _ = _; unfold rmaskF; rw [if_neg (by simp [hg])]
    go_wp2
    go_ret2
    exact ⟨by rw [HE.out]; rfl, HF.out⟩
  · have hnb := (planB_at hg).1
    go_wp2_with fail
    have hcc := l4Good_any _ P.net s qr cr fs _ (HN.out.keep HF.out) (HI.out.keep HF.out) hn
    rw [hnb, Bool.true_and] at hcc
    refine hcc.mono ?_
    clear hcc
    rintro e w2 ⟨rfl, hb⟩
    replace a0 := fkeep hb a0
    replace a1 := fkeep hb a1
    replace a2 := fkeep hb a2
    replace b0 := fkeep hb b0
    replace b1 := fkeep hb b1
    have HF := Lib.hid (fstep HF.out hb)
    clear hb
    cases hvis : isVis P.net s fs
    · have HE : Hid (rmaskF P (s, fs) = (0, false)) := by show rmaskF P _ = _; unfold rmaskF; rw [if_neg (by simp [hvis])]
      clear hnb
      go_wp2
      go_ret2
      exact ⟨by rw [HE.out]; rfl, HF.out⟩
    · have HE : Hid (rmaskF P (s, fs) = ((alongN P.lights fs : Int), true)) := by show rmaskF P _ = _; unfold rmaskF; rw [if_pos ⟨hg, hvis⟩]
      have HG : Hid (∀ x ∈ P.lights, goodB x.2.2.1 x.2.2.2 = true) := fun x hx => ltB_good (planB_lt hg x hx)
      clear hg hvis hnb
      go_wp2_with fail
      refine (l9Along_any _ P _ (s, fs) _ (HP.out.keep HF.out) (HR.out.keep HF.out) HG.out).mono ?_
      rintro e w3 ⟨rfl, hb⟩
      have HF := Lib.hid (fstep HF.out hb)
      clear hb a0 a1 a2 b0 b1
      go_wp2
      go_ret2
      exact ⟨by rw [HE.out]; rfl, HF.out⟩
end Go.Proofs.Ytjlhjkdmpngkbaa
