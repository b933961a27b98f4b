/- Contracts: AssignGreedy, the reference's side. -/
import Derived.Test.YtjaacinngfblkaaGreatAg3
namespace Go.Proofs.YtjaacinngfblkaaGreat
open Go.RowKit Go.PlainAid

/-- A list of ints as an argument, its room known. -/
def IsIn (w : World) (v : Value) (l : List Int) : Prop := ∃ p cap, v = .slice p l.length cap ∧ Ints w p l ∧ l.length ≤ 1048576 ∧ l.length ≤ cap ∧ cap ≤ 9223372036854775807
theorem IsIn.keep {w w' : World} {v : Value} {l : List Int} (h : IsIn w v l) (hb : Fresh w w') : IsIn w' v l := by
  obtain ⟨p, cap, h1, h2, r⟩ := h
  exact ⟨p, cap, h1, h2.keep hb, r⟩
theorem reqs_one {n : Net} {L : List RqT} (h : reqsB n L = true) : CntOne L ∧ L.length ≤ 7 := by
  unfold reqsB at h
  simp only [Bool.and_eq_true, List.all_eq_true, decide_eq_true_eq] at h
  refine ⟨fun x hx => ?_, h.1.2⟩
  have := h.2 x hx
  unfold reqB at this
  rw [Bool.and_eq_true, inB_iff] at this
  exact this.2
theorem agF_no {n : Net} {L : List RqT} {order : List Int} (h : reqsB n L = false) : agF n L order = ([], 0, false) := by unfold agF; rw [if_neg (by simp [h])]
theorem agF_ord {n : Net} {L : List RqT} {order : List Int} (h : ordB order L.length = false) : agF n L order = ([], 0, false) := by unfold agF; rw [if_neg (by simp [h])]
theorem agF_yes {n : Net} {L : List RqT} {order : List Int} (h : reqsB n L = true) (h2 : ordB order L.length = true) : agF n L order = agR L order := by unfold agF agR; rw [if_pos ⟨h, h2⟩]; cases gTo L order order.length <;> rfl
theorem out_none (w : World) {w1 : World} (hf : Fresh w w1) : OutAg w ([], 0, false) (.returned (.tuple #[.slice (some ⟨w1.heap.size, 0, none⟩) 0 0, .int .i64 0, .bool false])) (w1.alloc (.cells #[] 82)) :=
  ⟨_, _, rfl, Or.inr ⟨w1.heap.size, [], rfl, hf.size, RowAt.new w1 _ []⟩, fnew hf _⟩

set_option maxHeartbeats 4000000 in
set_option maxRecDepth 100000 in
theorem specAssignGreedy_any (v : Value) (n : Net) (u : Value) (L : List RqT) (u2 : Value) (order : List Int) (w : World) (h : NetIn w v n) (hu : RqIn w u L) (ho : IsIn w u2 order) :
    Calls Tryz.prog 13 #[v, u, u2] w (OutAg w (agF n L order)) := by
  obtain ⟨p, cap, l, rfl, hl, hs, rfl⟩ := hu
  obtain ⟨q2, c2, rfl, hI, hon, hoc, hom⟩ := ho
  have HN := Lib.hid h
  have HL := Lib.hid hl
  have HSM := Lib.hid hs
  have HI := Lib.hid hI
  have hlen : (l.map LQ.val).length = l.length := by simp
  have HLEN := Lib.hid hlen
  obtain ⟨q, m, c, p', k', d', rfl⟩ := h.shape
  clear h hl hs hI hlen
  have HW := Lib.hid (fnew (frefl w) (.cells #[.slice q m c, .slice p' k' d'] 35))
  go_enter Tryz.func13, Tryz.ntmps13
  go_wp2_with fail
  refine (l12Good_any _ n p cap l _ (HN.out.keep HW.out) (HL.out.keep HW.out) HSM.out).mono ?_
  rintro e w1 ⟨rfl, hb⟩
  have HF := Lib.hid (fstep HW.out hb)
  clear hb
  cases hg : reqsB n (l.map LQ.val)
  · have HE := Lib.hid (agF_no (order := order) hg)
    go_wp2
    go_ret3
    rw [HE.out]
    exact out_none w HF.out
  · obtain ⟨hone, h7⟩ := reqs_one hg
    have HONE := Lib.hid hone
    have HG := Lib.hid hg
    rw [HLEN.out] at h7
    have HOC := Lib.hid (l12Order_any q2 c2 order l.length _ (HI.out.keep HF.out) hon hoc hom (by omega))
    clear hone hg
    go_wp2_with fail
    refine (HOC.out).mono ?_
    rintro e w2 ⟨rfl, hb⟩
    have HF := Lib.hid (fstep HF.out hb)
    clear hb HOC
    cases hord : ordB order l.length
    · have HE : Hid (agF n (l.map LQ.val) order = ([], 0, false)) := agF_ord (by rw [HLEN.out]; exact hord)
      go_wp2
      go_ret3
      rw [HE.out]
      exact out_none w HF.out
    · have HE : Hid (agF n (l.map LQ.val) order = agR (l.map LQ.val) order) := agF_yes HG.out (by rw [HLEN.out]; exact hord)
      have hin := (ordB_iff.1 hord).2.1
      have HGR := Lib.hid (l12Greedy_any p q2 cap c2 l order _ (HL.out.keep HF.out) HSM.out HONE.out h7 (HI.out.keep HF.out) hon (fun i hi => by have := hin i hi; omega))
      have HZ := Lib.hid HF.out.size
      obtain ⟨R, hR⟩ : ∃ R, R = agR (l.map LQ.val) order := ⟨_, rfl⟩
      rw [← hR] at HE HGR
      clear hord hin hR
      go_wp2_with fail
      refine (HGR.out).mono ?_
      rintro e w3 ⟨pr, cr, rfl, hown, hb⟩
      have HF := Lib.hid (fstep HF.out hb)
      have HOW := Lib.hid hown
      clear hb hown
      go_wp2
      go_ret3
      rw [HE.out]
      exact ⟨_, _, rfl, HOW.out.mono HZ.out, HF.out⟩
end Go.Proofs.YtjaacinngfblkaaGreat
