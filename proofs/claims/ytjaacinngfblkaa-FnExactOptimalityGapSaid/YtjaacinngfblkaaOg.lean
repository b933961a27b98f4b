/- Contracts: OptimalityGap, both sides. -/
import Derived.Test.YtjaacinngfblkaaU5
namespace Go.Proofs.Ytjaacinngfblkaa
open Go.RowKit Go.PlainAid

def ogF (n : Net) (L : List RqT) (B : List (Int × Int)) : Int × Bool := if reqsB n L = true ∧ asgB L B = true then (heightTo B - (bdR L (2 ^ L.length)).1, true) else (0, false)
theorem heightTo_bd {B : List (Int × Int)} (h : ∀ b ∈ B, goodB b.1 b.2 = true) : 0 ≤ heightTo B ∧ heightTo B ≤ 24 := by
  have := height_bd h B.length
  rwa [List.take_length] at this

set_option maxHeartbeats 4000000 in
set_option maxRecDepth 100000 in
theorem specOptimalityGap_any (v : Value) (n : Net) (u : Value) (L : List RqT) (u2 : Value) (B : List (Int × Int)) (w : World) (h : NetIn w v n) (hu : RqIn w u L) (hb : BkIn w u2 B) :
    Calls Try.prog 17 #[v, u, u2] w fun e w' => e = .returned (.tuple #[.int .i64 (ogF n L B).1, .bool (ogF n L B).2]) ∧ Fresh w w' := by
  obtain ⟨p, cap, l, rfl, hl, hs, rfl⟩ := hu
  obtain ⟨pb, cb, rfl, hB, hbn⟩ := hb
  have HN := Lib.hid h
  have HL := Lib.hid hl
  have HSM := Lib.hid hs
  have HB := Lib.hid hB
  have hlen : (l.map LQ.val).length = l.length := by simp
  have HLEN := Lib.hid hlen
  obtain ⟨q, m, c, p', k', d', rfl⟩ := h.shape
  clear h hl hs hB hlen
  have HW := Lib.hid (fnew (frefl w) (.cells #[.slice q m c, .slice p' k' d'] 32))
  go_enter Try.func17, Try.ntmps17
  go_wp2_with fail
  refine (l12Good_any _ n p cap l _ (HN.out.keep HW.out) (HL.out.keep HW.out) HSM.out).mono ?_
  rintro e w1 ⟨rfl, hb⟩
  have HF := Lib.hid (fstep HW.out hb)
  clear hb
  cases hg : reqsB n (l.map LQ.val)
  · have HE : Hid (ogF n (l.map LQ.val) B = (0, false)) := by show ogF _ _ _ = _; unfold ogF; rw [if_neg (by simp [hg])]
    go_wp2
    go_ret2
    exact ⟨by rw [HE.out]; rfl, HF.out⟩
  · go_wp2_with fail
    refine (l12Is_any p pb cap cb l B _ (HL.out.keep HF.out) HSM.out (HB.out.keep HF.out) hbn).mono ?_
    rintro e w2 ⟨rfl, hb⟩
    have HF := Lib.hid (fstep HF.out hb)
    clear hb
    cases ha : asgB (l.map LQ.val) B
    · have HE : Hid (ogF n (l.map LQ.val) B = (0, false)) := by show ogF _ _ _ = _; unfold ogF; rw [if_neg (by simp [ha])]
      go_wp2
      go_ret2
      exact ⟨by rw [HE.out]; rfl, HF.out⟩
    · obtain ⟨hcs, h7⟩ := reqs_cnt hg
      have hbd := bdR_bd hcs (2 ^ (l.map LQ.val).length)
      rw [HLEN.out] at h7
      have HE : Hid (ogF n (l.map LQ.val) B = (heightTo B - (bdR (l.map LQ.val) (2 ^ (l.map LQ.val).length)).1, true)) := by show ogF _ _ _ = _; unfold ogF; rw [if_pos ⟨hg, ha⟩]
      have HGD : Hid (∀ b ∈ B, goodB b.1 b.2 = true) := asg_good ha
      have hhb := heightTo_bd HGD.out
      have HBC := Lib.hid (l12Bound_any p cap l _ (HL.out.keep HF.out) HSM.out hcs h7)
      rw [← HLEN.out] at HBC
      obtain ⟨A, hA⟩ : ∃ A, A = bdR (l.map LQ.val) (2 ^ (l.map LQ.val).length) := ⟨_, rfl⟩
      rw [← hA] at hbd HE HBC
      rw [HLEN.out] at hbd HBC
      obtain ⟨H, hH⟩ : ∃ H, H = heightTo B := ⟨_, rfl⟩
      have HHC : Hid (∀ w', Fresh w w' → Calls Try.prog 57 #[.slice pb B.length cb] w' fun e w2 => e = .returned (.int .i64 H) ∧ Fresh w' w2) := by
        intro w' hf'; rw [hH]; exact l12Height_any pb cb B w' (HB.out.keep hf') HGD.out hbn
      rw [← hH] at hhb HE
      obtain ⟨a1, a2⟩ := A
      simp only at hbd HE HBC
      clear hg ha hcs hA hH
      go_wp2_with fail
      refine (HBC.out).mono ?_
      rintro e w3 ⟨rfl, hb⟩
      have HF := Lib.hid (fstep HF.out hb)
      clear hb HBC
      go_wp2_with fail
      refine (HHC.out _ HF.out).mono ?_
      rintro e w4 ⟨rfl, hb⟩
      have HF := Lib.hid (fstep HF.out hb)
      clear hb HHC
      go_wp2
      go_ret2
      exact ⟨by rw [HE.out]; rfl, HF.out⟩

set_option maxHeartbeats 4000000 in
set_option maxRecDepth 100000 in
theorem implOptimalityGap_any (v : Value) (n : Net) (u : Value) (L : List RqT) (u2 : Value) (B : List (Int × Int)) (w : World) (h : NetIn w v n) (hu : RqIn w u L) (hb : BkIn w u2 B) :
    Calls Try.prog 20 #[v, u, u2] w fun e w' => e = .returned (.tuple #[.int .i64 (ogF n L B).1, .bool (ogF n L B).2]) ∧ Fresh w w' := by
  have HCK : Hid (∀ w', Fresh w w' → Calls Try.prog 60 #[v, u, u2] w' fun e w2 => e = .returned (.tuple #[.int .i64 (chkF n L B).1, .bool (chkF n L B).2]) ∧ Fresh w' w2) :=
    fun w' hf' => implCheckAssignment_any v n u L u2 B w' (h.keep hf') (hu.keep hf') (hb.keep hf')
  obtain ⟨p, cap, l, rfl, hl, hs, rfl⟩ := hu
  obtain ⟨pb, cb, rfl, hB, hbn⟩ := hb
  have HL := Lib.hid hl
  have HSM := Lib.hid hs
  have hlen : (l.map LQ.val).length = l.length := by simp
  have HLEN := Lib.hid hlen
  obtain ⟨q, m, c, p', k', d', rfl⟩ := h.shape
  clear h hl hs hB hlen
  have HW := Lib.hid (fnew (frefl w) (.cells #[.slice q m c, .slice p' k' d'] 32))
  by_cases hok : reqsB n (l.map LQ.val) = true ∧ asgB (l.map LQ.val) B = true
  · obtain ⟨hcs, h7⟩ := reqs_cnt hok.1
    have hbd := bdR_bd hcs (2 ^ (l.map LQ.val).length)
    rw [HLEN.out] at h7
    have HE : Hid (ogF n (l.map LQ.val) B = (heightTo B - (bdR (l.map LQ.val) (2 ^ (l.map LQ.val).length)).1, true)) := by show ogF _ _ _ = _; unfold ogF; rw [if_pos hok]
    have hhb := heightTo_bd (asg_good hok.2)
    have hce : chkF n (l.map LQ.val) B = (heightTo B, true) := by unfold chkF; rw [if_pos hok]
    rw [hce] at HCK
    have HBC : Hid (∀ w', Fresh w w' → Calls Try.prog 61 #[.slice p l.length cap] w' fun e w2 => e = .returned (.tuple #[.int .i64 (bdR (l.map LQ.val) (2 ^ l.length)).1, .int .i64 ((bdR (l.map LQ.val) (2 ^ l.length)).2 : Int)]) ∧ Fresh w' w2) :=
      fun w' hf' => cliqueBound_any p cap l w' (HL.out.keep hf') HSM.out hcs h7
    rw [← HLEN.out] at HBC
    obtain ⟨A, hA⟩ : ∃ A, A = bdR (l.map LQ.val) (2 ^ (l.map LQ.val).length) := ⟨_, rfl⟩
    rw [← hA] at hbd HE HBC
    rw [HLEN.out] at hbd HBC
    obtain ⟨H, hH⟩ : ∃ H, H = heightTo B := ⟨_, rfl⟩
    rw [← hH] at hhb HE HCK
    obtain ⟨a1, a2⟩ := A
    simp only at hbd HE HBC HCK
    clear hok hcs hA hH hce
    go_enter Try.func20, Try.ntmps20
    go_wp2_with fail
    refine (HCK.out _ HW.out).mono ?_
    rintro e w3 ⟨rfl, hb⟩
    have HF := Lib.hid (fstep HW.out hb)
    clear hb HCK
    go_wp2_with fail
    refine (HBC.out _ HF.out).mono ?_
    rintro e w4 ⟨rfl, hb⟩
    have HF := Lib.hid (fstep HF.out hb)
    clear hb HBC
    go_wp2
    go_ret2
    exact ⟨by rw [HE.out]; rfl, HF.out⟩
  · have HE : Hid (ogF n (l.map LQ.val) B = (0, false)) := by show ogF _ _ _ = _; unfold ogF; rw [if_neg hok]
    have hce : chkF n (l.map LQ.val) B = (0, false) := by unfold chkF; rw [if_neg hok]
    rw [hce] at HCK
    simp only at HCK
    clear hok hce
    go_enter Try.func20, Try.ntmps20
    go_wp2_with fail
    refine (HCK.out _ HW.out).mono ?_
    rintro e w3 ⟨rfl, hb⟩
    have HF := Lib.hid (fstep HW.out hb)
    clear hb HCK
    go_wp2
    go_ret2
    exact ⟨by rw [HE.out]; rfl, HF.out⟩
end Go.Proofs.Ytjaacinngfblkaa
