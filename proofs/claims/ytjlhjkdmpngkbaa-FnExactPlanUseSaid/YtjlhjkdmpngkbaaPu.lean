/- Contracts: PlanUse, both sides. -/
import Derived.Test.YtjlhjkdmpngkbaaRm
import Derived.Test.YtjlhjkdmpngkbaaCnt
namespace Go.Proofs.Ytjlhjkdmpngkbaa
open Go.RowKit Go.PlainAid

def useStep (L : List LtV) (a : Nat × Nat) (f : Nat) : Nat × Nat := (a.1 + pop.cnt (usedN L f), a.2 ||| usedN L f)
def useTo (L : List LtV) (k : Nat) : Nat × Nat := (List.range k).foldl (useStep L) (0, 0)
theorem useTo_succ (L : List LtV) (k : Nat) : useTo L (k + 1) = (( useTo L k).1 + pop.cnt (usedN L k), (useTo L k).2 ||| usedN L k) := by unfold useTo; rw [List.range_succ, List.foldl_append]; rfl
theorem cnt24 {m : Nat} (h : m < 16777216) : pop.cnt m ≤ 24 := by rw [← pop.cntTo_24 m h]; exact pop.cntTo_le m 24
theorem useTo_bd {L : List LtV} (h : ∀ x ∈ L, goodB x.2.2.1 x.2.2.2 = true) (k : Nat) : (useTo L k).1 ≤ 24 * k ∧ (useTo L k).2 < 16777216 := by
  induction k with
  | zero => simp [useTo]
  | succ k ih =>
    have h1 := used_lt (k : Int) h
    have h2 := cnt24 h1
    rw [useTo_succ]
    refine ⟨by simp only; omega, or24 ih.2 h1⟩
def planuseF (P : PlanV) : Int × Int × Bool := if planB P = true then (((useTo P.lights P.net.fibers.length).1 : Int), (pop.cnt (useTo P.lights P.net.fibers.length).2 : Int), true) else (0, 0, false)

set_option maxHeartbeats 2000000 in
set_option maxRecDepth 100000 in
theorem specPlanUse_any (v : Value) (P : PlanV) (w : World) (h : PlIn w v P) :
    Calls Try.prog 70 #[v] w fun e w' => e = .returned (.tuple #[.int .i64 (planuseF P).1, .int .i64 (planuseF P).2.1, .bool (planuseF P).2.2]) ∧ Fresh w w' := by
  have HP := Lib.hid h
  have hnf := h.isSmall.1.2
  obtain ⟨q, m, c, p, k0, d, r, i0, e0, rfl, hN⟩ := h.shapeN
  have hk0 : k0 = P.net.fibers.length := by
    obtain ⟨_, _, _, _, hv, _⟩ := hN
    simp only [Value.agg.injEq] at hv
    have := congrArg (fun a : Array Value => a[1]?) hv
    simp at this
    exact this.2.1
  subst hk0
  clear h hN
  obtain ⟨W1, hW1⟩ : ∃ W1, W1 = w.alloc (.cells #[.slice q m c, .slice p P.net.fibers.length d, .slice r i0 e0] 62) := ⟨_, rfl⟩
  have HF1 : Hid (Fresh w W1) := by show Fresh w W1; rw [hW1]; exact fnew (frefl _) _
  have HR1 : Hid (RowAt W1 w.heap.size 62 [.slice q m c, .slice p P.net.fibers.length d, .slice r i0 e0]) := by show RowAt W1 _ _ _; rw [hW1]; exact RowAt.new w _ _
  have HW1 := Lib.hid hW1
  clear hW1
  go_enter Try.func70, Try.ntmps70
  go_wp2_with fail
  rw [← HW1.out]
  clear HW1
  refine (l9Good_any _ P _ (HP.out.keep HF1.out)).mono ?_
  rintro e w1 ⟨rfl, hb⟩
  have HF := Lib.hid (fstep HF1.out hb)
  have HR := Lib.hid (HR1.out.keep hb)
  clear hb HF1 HR1
  cases hg : planB P
  · have HE : Hid (planuseF P = (0, 0, false)) := by show planuseF P = _; unfold planuseF; rw [if_neg (by simp [hg])]
    go_wp2
    go_ret3
    exact ⟨by rw [HE.out]; rfl, HF.out⟩
  · have HE : Hid (planuseF P = (((useTo P.lights P.net.fibers.length).1 : Int), (pop.cnt (useTo P.lights P.net.fibers.length).2 : Int), true)) := by show planuseF P = _; unfold planuseF; rw [if_pos hg]
    have HG : Hid (∀ x ∈ P.lights, goodB x.2.2.1 x.2.2.2 = true) := fun x hx => ltB_good (planB_lt hg x hx)
    clear hg
    go_wp2
    go_loopw [5, 6, 7] (fun s a i wr => ∃ k : Nat, k ≤ P.net.fibers.length ∧ i = .int .i64 k ∧ s = .int .i64 ((useTo P.lights k).1 : Int) ∧ a = .int .i64 ((useTo P.lights k).2 : Int) ∧ Fresh w1 wr) (fun _ _ i _ => P.net.fibers.length - (intOf i).toNat)
    case atStart => exact ⟨0, Nat.zero_le _, rfl, rfl, rfl, frefl _⟩
    case round =>
      obtain ⟨k, hk, rfl, rfl, rfl, hf⟩ := hrel
      have HFR := Lib.hid hf
      have a0 := (HR.out.keep hf).cell (i := 0) rfl
      have a1 := (HR.out.keep hf).cell (i := 1) rfl
      have a2 := (HR.out.keep hf).cell (i := 2) rfl
      clear hf
      obtain ⟨hs1, hs2⟩ := useTo_bd HG.out k
      by_cases hlt : k < P.net.fibers.length
      · have hltz : (k : Int) < (P.net.fibers.length : Int) := by omega
        have hul := used_lt (L := P.lights) (k : Int) HG.out
        have hcn := cnt24 hul
        have HST := Lib.hid (useTo_succ P.lights k)
        obtain ⟨s, hs⟩ : ∃ s, s = (useTo P.lights k).1 := ⟨_, rfl⟩
        obtain ⟨a, ha⟩ : ∃ a, a = (useTo P.lights k).2 := ⟨_, rfl⟩
        obtain ⟨y, hy⟩ : ∃ y, y = usedN P.lights (k : Int) := ⟨_, rfl⟩
        rw [← hs, ← ha] at HST ⊢
        rw [← hs] at hs1
        rw [← ha] at hs2
        rw [← hy] at hul hcn HST
        have HOR := Lib.hid (or_i64 a y (lt63 hs2) (lt63 hul))
        have HU : Hid (∀ w', Fresh w w' → Calls Try.prog 133 #[.agg #[.slice q m c, .slice p P.net.fibers.length d, .slice r i0 e0], .int .i64 (k : Int)] w' fun e w'' => e = .returned (.int .i64 (y : Int)) ∧ Fresh w' w'') := by
          intro w' hf'; rw [hy]; exact l9Used_any _ P k w' (HP.out.keep hf') HG.out
        obtain ⟨cn, hcn'⟩ : ∃ cn, cn = pop.cnt y := ⟨_, rfl⟩
        rw [← hcn'] at hcn HST
        have HCN := Lib.hid hcn'
        clear hs ha hy hcn'
        go_wp2_with fail
        refine (HU.out _ (fstep HF.out HFR.out)).mono ?_
        rintro e w2 ⟨rfl, hb⟩
        replace a0 := fkeep hb a0
        replace a1 := fkeep hb a1
        replace a2 := fkeep hb a2
        have HFR := Lib.hid (fstep HFR.out hb)
        clear hb
        go_wp2_with fail
        refine (l8Count_any y _ hul).mono ?_
        rintro e w3 ⟨rfl, rfl⟩
        rw [← HCN.out]
        go_wp2_with fail
        refine (HU.out _ (fstep HF.out HFR.out)).mono ?_
        rintro e w4 ⟨rfl, hb⟩
        have HFR := Lib.hid (fstep HFR.out hb)
        clear hb a0 a1 a2
        go_wp2
        go_roundw
        case rel => exact ⟨k + 1, by omega, by go_num, by rw [HST.out]; go_num, by rw [HST.out, HOR.out], HFR.out⟩
        case measure => simp [intOf]; omega
      · have hkn : k = P.net.fibers.length := by omega
        have hltz : ¬ (k : Int) < (P.net.fibers.length : Int) := by omega
        subst hkn
        obtain ⟨U, hU⟩ : ∃ U, U = useTo P.lights P.net.fibers.length := ⟨_, rfl⟩
        rw [← hU] at hs1 hs2 HE ⊢
        clear hU
        go_wp2_with fail
        refine (l8Count_any U.2 _ hs2).mono ?_
        rintro e w3 ⟨rfl, rfl⟩
        go_wp2
        go_ret3
        exact ⟨by rw [HE.out]; rfl, fstep HF.out HFR.out⟩

set_option maxHeartbeats 2000000 in
set_option maxRecDepth 100000 in
theorem implPlanUse_any (v : Value) (P : PlanV) (w : World) (h : PlIn w v P) :
    Calls Try.prog 71 #[v] w fun e w' => e = .returned (.tuple #[.int .i64 (planuseF P).1, .int .i64 (planuseF P).2.1, .bool (planuseF P).2.2]) ∧ Fresh w w' := by
  have HP := Lib.hid h
  have hnf := h.isSmall.1.2
  obtain ⟨q, m, c, p, k0, d, r, i0, e0, rfl⟩ := h.shape
  clear h
  obtain ⟨W1, hW1⟩ : ∃ W1, W1 = w.alloc (.cells #[.slice q m c, .slice p k0 d, .slice r i0 e0] 62) := ⟨_, rfl⟩
  have HF1 : Hid (Fresh w W1) := by show Fresh w W1; rw [hW1]; exact fnew (frefl _) _
  have HR1 : Hid (RowAt W1 w.heap.size 62 [.slice q m c, .slice p k0 d, .slice r i0 e0]) := by show RowAt W1 _ _ _; rw [hW1]; exact RowAt.new w _ _
  have HW1 := Lib.hid hW1
  clear hW1
  go_enter Try.func71, Try.ntmps71
  go_wp2_with fail
  rw [← HW1.out]
  clear HW1
  refine (implIsValidPlan_any _ P _ (HP.out.keep HF1.out)).mono ?_
  rintro e w1 ⟨rfl, hb⟩
  have HF := Lib.hid (fstep HF1.out hb)
  have a0 := (HR1.out.keep hb).cell (i := 0) rfl
  have a1 := (HR1.out.keep hb).cell (i := 1) rfl
  have a2 := (HR1.out.keep hb).cell (i := 2) rfl
  clear hb HF1 HR1
  cases hg : planB P
  · have HE : Hid (planuseF P = (0, 0, false)) := by show planuseF P = _; unfold planuseF; rw [if_neg (by simp [hg])]
    go_wp2
    go_ret3
    exact ⟨by rw [HE.out]; rfl, HF.out⟩
  · have HE : Hid (planuseF P = (((useTo P.lights P.net.fibers.length).1 : Int), (pop.cnt (useTo P.lights P.net.fibers.length).2 : Int), true)) := by show planuseF P = _; unfold planuseF; rw [if_pos hg]
    have HG : Hid (∀ x ∈ P.lights, goodB x.2.2.1 x.2.2.2 = true) := fun x hx => ltB_good (planB_lt hg x hx)
    have HPB := Lib.hid hg
    clear hg
    go_wp2_with fail
    refine (fiberMasks_any _ P _ (HP.out.keep HF.out) HPB.out).mono ?_
    rintro e w2 ⟨pm, cm, rfl, ho, hb⟩
    have HF := Lib.hid (fstep HF.out hb)
    have HM := Lib.hid ho.ints
    clear hb ho a0 a1 a2
    go_wp2
    go_loop [5, 6, 15] (fun s a i => ∃ k : Nat, k ≤ P.net.fibers.length ∧ i = .int .i64 k ∧ s = .int .i64 ((useTo P.lights k).1 : Int) ∧ a = .int .i64 ((useTo P.lights k).2 : Int)) (fun _ _ i => P.net.fibers.length - (intOf i).toNat)
    case atStart => exact ⟨0, Nat.zero_le _, rfl, rfl, rfl⟩
    case round =>
      obtain ⟨k, hk, rfl, rfl, rfl⟩ := hrel
      obtain ⟨hs1, hs2⟩ := useTo_bd HG.out k
      by_cases hlt : k < P.net.fibers.length
      · have hltz : (k : Int) < (P.net.fibers.length : Int) := by omega
        obtain ⟨b2, off2, y', hq2, hy', hc2⟩ := HM.out.at (k := k) (by simp; omega)
        subst hq2
        have hyv : y' = (usedN P.lights k : Int) := by
          rw [List.getElem?_map, List.getElem?_map, List.getElem?_range hlt] at hy'
          simpa using hy'.symm
        rw [hyv] at hc2
        have hul := used_lt (L := P.lights) (k : Int) HG.out
        have hcn := cnt24 hul
        have HST := Lib.hid (useTo_succ P.lights k)
        obtain ⟨s, hs⟩ : ∃ s, s = (useTo P.lights k).1 := ⟨_, rfl⟩
        obtain ⟨a, ha⟩ : ∃ a, a = (useTo P.lights k).2 := ⟨_, rfl⟩
        obtain ⟨y, hy⟩ : ∃ y, y = usedN P.lights (k : Int) := ⟨_, rfl⟩
        rw [← hs, ← ha] at HST ⊢
        rw [← hs] at hs1
        rw [← ha] at hs2
        rw [← hy] at hul hcn HST hc2
        have HOR := Lib.hid (or_i64 a y (lt63 hs2) (lt63 hul))
        obtain ⟨cn, hcn'⟩ : ∃ cn, cn = pop.cnt y := ⟨_, rfl⟩
        rw [← hcn'] at hcn HST
        have HCN := Lib.hid hcn'
        clear hs ha hy hcn' hy' hyv
        go_wp2_with fail
        refine (onesCount_any y _ hul).mono ?_
        rintro e w3 ⟨rfl, rfl⟩
        rw [← HCN.out]
        go_wp2
        go_round
        case rel => exact ⟨k + 1, by omega, by go_num, by rw [HST.out]; go_num, by rw [HST.out, HOR.out]⟩
        case measure => simp [intOf]; omega
      · have hkn : k = P.net.fibers.length := by omega
        have hltz : ¬ (k : Int) < (P.net.fibers.length : Int) := by omega
        subst hkn
        obtain ⟨U, hU⟩ : ∃ U, U = useTo P.lights P.net.fibers.length := ⟨_, rfl⟩
        rw [← hU] at hs1 hs2 HE ⊢
        clear hU
        go_wp2_with fail
        refine (onesCount_any U.2 _ hs2).mono ?_
        rintro e w3 ⟨rfl, rfl⟩
        go_wp2
        go_ret3
        exact ⟨by rw [HE.out]; rfl, HF.out⟩
end Go.Proofs.Ytjlhjkdmpngkbaa
