/- Contracts: two routes are good; the length of a route; two routes are disjoint. -/
import Derived.Test.YtlapicgeokjpjaaDjL
import Derived.Test.YtlapicgeokjpjaaPo2
import Derived.Test.YtlapicgeokjpjaaU6
import Derived.Deep.DeepCutAuto
namespace Go.Proofs.Ytlapicgeokjpjaa
open Go.RowKit Go.PlainAid

set_option maxHeartbeats 2000000 in
theorem areRoutes_any (v : Value) (n : Net) (v2 v3 : Value) (A B : Int × List Int) (w : World) (h : NetIn w v n) (h2 : RtIn w v2 A) (h3 : RtIn w v3 B) :
    Calls Try.prog 18 #[v, v2, v3] w fun e w' => e = .returned (.bool (crB n A B)) ∧ Fresh w w' := by
  have HN := Lib.hid h
  have HA := Lib.hid h2
  have HB := Lib.hid h3
  obtain ⟨s, q, cap, a, rfl, ha, hl, rfl⟩ := h2
  obtain ⟨s', q', cap', b, rfl, hb, hl', rfl⟩ := h3
  obtain ⟨qn, cn, pn, cp, rfl, _, _, n1, _, _, _, _⟩ := h
  obtain ⟨W3, hW3, hsz3, hf3, r1, r2, r3⟩ := three_rows w [.slice qn n.nodes.length cn, .slice pn n.fibers.length cp] [.int .i64 s, .slice q a.length cap] [.int .i64 s', .slice q' b.length cap'] 27 30 30
  have HV1 := Lib.hid (implIsValidRoute_any _ n _ (s, a) W3 (HN.out.keep hf3) (HA.out.keep hf3))
  have HF3 := Lib.hid hf3
  have HW3 := Lib.hid hW3
  have HR1 := Lib.hid r1
  have HR3 := Lib.hid r3
  have c0 := r1.cell (i := 0) rfl
  have c1 := r1.cell (i := 1) rfl
  have c2 := r2.cell (i := 0) rfl
  have c3 := r2.cell (i := 1) rfl
  have HCR : Hid (crB n (s, a) (s', b) = ((netB n && isVis n s a) && (netB n && isVis n s' b))) := by show _ = _; unfold crB; cases netB n <;> simp
  clear hW3 hsz3 hf3 r1 r2 r3 ha hb
  go_enter Try.func18, Try.ntmps18
  go_wp2_with fail
  rw [← HW3.out]
  refine (HV1.out).mono ?_
  rintro e w4 ⟨rfl, hb4⟩
  have HF4 := Lib.hid (fstep HF3.out hb4)
  have HV2 := Lib.hid (implIsValidRoute_any _ n _ (s', b) w4 (HN.out.keep HF4.out) (HB.out.keep HF4.out))
  have d0 := (HR1.out.keep hb4).cell (i := 0) rfl
  have d1 := (HR1.out.keep hb4).cell (i := 1) rfl
  have d2 := (HR3.out.keep hb4).cell (i := 0) rfl
  have d3 := (HR3.out.keep hb4).cell (i := 1) rfl
  obtain ⟨g1, hg1⟩ : ∃ g, g = (netB n && isVis n s a) := ⟨_, rfl⟩
  obtain ⟨g2, hg2⟩ : ∃ g, g = (netB n && isVis n s' b) := ⟨_, rfl⟩
  simp only at HV1 HV2 ⊢
  rw [← hg1, ← hg2] at HCR
  rw [← hg2] at HV2
  rw [← hg1]
  clear hb4 hg1 hg2 c0 c1 c2 c3 HV1
  cases g1
  · go_wp2
    go_ret
    exact ⟨by rw [HCR.out]; rfl, HF4.out⟩
  · go_wp2_with fail
    refine (HV2.out).mono ?_
    rintro e w5 ⟨rfl, hb5⟩
    have HF5 := Lib.hid (fstep HF4.out hb5)
    clear hb5 d0 d1 d2 d3
    go_wp2
    go_ret
    exact ⟨by rw [HCR.out]; rfl, HF5.out⟩
end Go.Proofs.Ytlapicgeokjpjaa
