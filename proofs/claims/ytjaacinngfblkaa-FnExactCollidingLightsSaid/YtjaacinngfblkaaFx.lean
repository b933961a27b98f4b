/- Contracts: FiberMasks, both sides. -/
import Derived.Test.YtjaacinngfblkaaU5
import Derived.Test.YtjaacinngfblkaaU4
namespace Go.Proofs.Ytjaacinngfblkaa
open Go.RowKit Go.PlainAid

theorem netB_fibers {n : Net} (h : netB n = true) : n.fibers.length ≤ 14 := by
  unfold netB at h
  simp only [Bool.and_eq_true, decide_eq_true_eq] at h
  exact h.1.1.2
theorem PlIn.split {w : World} {v : Value} {P : PlanV} (h : PlIn w v P) : ∃ q m c p k d r n e, v = .agg #[.slice q m c, .slice p k d, .slice r n e] ∧ NetIn w (.agg #[.slice q m c, .slice p k d]) P.net := by
  obtain ⟨q, m, c, p, k, d, r, e, l, h1, h2, h3, h4, h5, _⟩ := h
  exact ⟨_, _, _, _, _, _, _, _, _, h1, h2⟩
def fmL (P : PlanV) (m : Nat) : List Int := ((List.range m).map fun f : Nat => usedN P.lights f).map fun n : Nat => (n : Int)
theorem fmL_succ (P : PlanV) (m : Nat) : fmL P (m + 1) = fmL P m ++ [(usedN P.lights m : Int)] := by unfold fmL; rw [List.range_succ]; simp
theorem fmL_len (P : PlanV) (m : Nat) : (fmL P m).length = m := by unfold fmL; simp
def fmF (P : PlanV) : List Int × Bool := if planB P = true then (fmL P P.net.fibers.length, true) else ([], false)
theorem plB_net {P : PlanV} (h : planB P = true) : netB P.net = true := by
  unfold planB at h
  simp only [Bool.and_eq_true] at h
  exact h.1.1
theorem fmF_len (P : PlanV) : (fmF P).1.length ≤ 1048576 := by
  unfold fmF
  split
  · next h => rw [fmL_len]; exact Nat.le_trans (netB_fibers (plB_net h)) (by omega)
  · simp

set_option maxHeartbeats 4000000 in
set_option maxRecDepth 100000 in
theorem specFiberMasks_any (v : Value) (P : PlanV) (w : World) (h : PlIn w v P) :
    Calls Try.prog 36 #[v] w (fun e w' => ∃ p c, e = .returned (.tuple #[.slice p (fmF P).1.length c, .bool (fmF P).2]) ∧ Own w' w.heap.size 3 p ((fmF P).1.map iv) ∧ Fresh w w') := by
  have HP := Lib.hid h
  have hfb : P.net.fibers.length ≤ 1048576 := h.isSmall.1.2
  obtain ⟨q, m, c, p, k0, d, r, n, e0, hv, hN⟩ := PlIn.split h
  subst hv
  obtain ⟨q', c', p', d', hv2, _⟩ := id hN
  cases hv2
  clear h hN
  obtain ⟨W1, hW1⟩ : ∃ W1, W1 = w.alloc (.cells #[.slice q P.net.nodes.length c, .slice p P.net.fibers.length d, .slice r n e0] 68) := ⟨_, rfl⟩
  have HF1 : Hid (Fresh w W1) := by show Fresh w W1; rw [hW1]; exact fnew (frefl _) _
  have hr1 : RowAt W1 w.heap.size 68 [.slice q P.net.nodes.length c, .slice p P.net.fibers.length d, .slice r n e0] := by rw [hW1]; exact RowAt.new _ _ _
  have hz1 : W1.heap.size = w.heap.size + 1 := by rw [hW1]; simp
  obtain ⟨W2, hW2⟩ : ∃ W2, W2 = W1.alloc (.cells #[] 3) := ⟨_, rfl⟩
  have hf2 : Fresh W1 W2 := by rw [hW2]; exact fnew (frefl _) _
  obtain ⟨Bs, hBs⟩ : ∃ Bs, Bs = W1.heap.size := ⟨_, rfl⟩
  have hown2 : W2.ownsRow Bs 3 1 (.slice (some ⟨w.heap.size + 1, 0, none⟩) 0 0) 0 ([].map iv) := by rw [← hz1, hBs, hW2]; exact World.ownsRow_made W1 #[] 0 (Nat.le_refl _) (by simp [maxLen]) rfl
  rw [hBs] at hown2
  have HS1 := Lib.hid HF1.out.size
  have HR1 := Lib.hid hr1
  have HW1 := Lib.hid hW1
  have HW2 := Lib.hid hW2
  have HO2 := Lib.hid hown2
  have HF2 := Lib.hid hf2
  have e0' := (hr1.keep hf2).cell (i := 0) rfl
  have e1' := (hr1.keep hf2).cell (i := 1) rfl
  have e2' := (hr1.keep hf2).cell (i := 2) rfl
  have c0 := hr1.cell (i := 0) rfl
  have c1 := hr1.cell (i := 1) rfl
  have c2 := hr1.cell (i := 2) rfl
  clear hown2 hf2 hz1 hBs hW1 hW2 hr1
  go_enter Try.func36, Try.ntmps36
  go_wp2_with fail
  rw [← HW1.out, ← HW2.out]
  refine (l9Good_any _ P _ (HP.out.keep (fstep HF1.out HF2.out))).mono ?_
  rintro e w1 ⟨rfl, hb⟩
  have HO := Lib.hid (ownsRow_keep HO2.out hb)
  have HF := Lib.hid (fstep HF2.out hb)
  clear hb c0 c1 c2 e0' e1' e2'
  cases hg : planB P
  · have HE : Hid (fmF P = ([], false)) := by show _ = _; unfold fmF; rw [if_neg (by simp [hg])]
    go_wp2
    go_ret2
    rw [HE.out]
    obtain ⟨pr, cr, hpr, ho⟩ := own_of_row HO.out
    cases hpr
    exact ⟨_, _, rfl, ho.mono HS1.out, fstep HF1.out HF.out⟩
  · have HE : Hid (fmF P = (fmL P P.net.fibers.length, true)) := by show _ = _; unfold fmF; rw [if_pos hg]
    have HG : Hid (∀ x ∈ P.lights, goodB x.2.2.1 x.2.2.2 = true) := fun x hx => ltB_good (planB_lt hg x hx)
    clear hg
    have b1 := (HR1.out.keep HF.out).cell (i := 1) rfl
    go_wp2
    go_loopw [4, 5] (fun o j wr => ∃ k : Nat, k ≤ P.net.fibers.length ∧ j = .int .i64 k ∧ wr.ownsRow W1.heap.size 3 1 o (fmL P k).length ((fmL P k).map iv) ∧ Fresh W1 wr) (fun _ j _ => P.net.fibers.length - (intOf j).toNat)
    case atStart => exact ⟨0, Nat.zero_le _, rfl, HO.out, HF.out⟩
    case round =>
      obtain ⟨k, hk, rfl, hown, hf⟩ := hrel
      have hrow := HR1.out.keep hf
      have HO := Lib.hid hown
      have HF := Lib.hid hf
      have hil := fmL_len P k
      have d0 := hrow.cell (i := 0) rfl
      have d1 := hrow.cell (i := 1) rfl
      have d2 := hrow.cell (i := 2) rfl
      clear hown hf hrow b1
      by_cases hlt : k < P.net.fibers.length
      · have hltz : (k : Int) < (P.net.fibers.length : Int) := by omega
        have HY := Lib.hid (fmL_succ P k)
        obtain ⟨I, hI⟩ : ∃ I, I = fmL P k := ⟨_, rfl⟩
        rw [← hI] at HO HY hil
        clear hI
        have HC := Lib.hid (l9Used_any _ P (k : Int) wr (HP.out.keep (fstep HF1.out HF.out)) HG.out)
        obtain ⟨U, hU⟩ : ∃ U : Int, U = (usedN P.lights (k : Int) : Int) := ⟨_, rfl⟩
        rw [← hU] at HC HY
        clear hU
        go_wp2_with fail
        refine (HC.out).mono ?_
        rintro e w2 ⟨rfl, hb⟩
        have hown := ownsRow_keep HO.out hb
        have HF2 := Lib.hid (fstep HF.out hb)
        clear hb d0 d1 d2 HO
        go_wp2_with (at_builtin; refine wpList_app_ints W1 _ _ I U rfl _ _ rfl rfl hown rfl (by omega) HF2.out ?_; intro v' w3 hown3 hf3)
        have HO3 := Lib.hid hown3
        have HF3 := Lib.hid hf3
        clear hown hown3 hf3
        go_wp2
        go_roundw
        case rel => exact ⟨k + 1, by omega, by go_num, by rw [HY.out]; exact HO3.out, HF3.out⟩
        case measure => simp [intOf]; omega
      · have hkl : k = P.net.fibers.length := by omega
        subst hkl
        go_wp2
        go_ret2
        rw [HE.out]
        obtain ⟨pr, cr, hpr, ho⟩ := own_of_row HO.out
        subst hpr
        exact ⟨_, _, rfl, ho.mono HS1.out, fstep HF1.out HF.out⟩

set_option maxHeartbeats 4000000 in
set_option maxRecDepth 100000 in
theorem implFiberMasks_any (v : Value) (P : PlanV) (w : World) (h : PlIn w v P) :
    Calls Try.prog 37 #[v] w (fun e w' => ∃ p c, e = .returned (.tuple #[.slice p (fmF P).1.length c, .bool (fmF P).2]) ∧ Own w' w.heap.size 3 p ((fmF P).1.map iv) ∧ Fresh w w') := by
  have HP := Lib.hid h
  obtain ⟨q, m, c, p, k0, d, r, n, e0, hv⟩ := h.shape
  subst hv
  clear h
  obtain ⟨W1, hW1⟩ : ∃ W1, W1 = w.alloc (.cells #[.slice q m c, .slice p k0 d, .slice r n e0] 68) := ⟨_, rfl⟩
  have HF1 : Hid (Fresh w W1) := by show Fresh w W1; rw [hW1]; exact fnew (frefl _) _
  have HR1 : Hid (RowAt W1 w.heap.size 68 [.slice q m c, .slice p k0 d, .slice r n e0]) := by show RowAt _ _ _ _; rw [hW1]; exact RowAt.new _ _ _
  have HW1 := Lib.hid hW1
  clear hW1
  go_enter Try.func37, Try.ntmps37
  go_wp2_with fail
  rw [← HW1.out]
  refine (implIsValidPlan_any _ P _ (HP.out.keep HF1.out)).mono ?_
  rintro e w1 ⟨rfl, hb⟩
  have HF := Lib.hid (fstep HF1.out hb)
  have c0 := (HR1.out.keep hb).cell (i := 0) rfl
  have c1 := (HR1.out.keep hb).cell (i := 1) rfl
  have c2 := (HR1.out.keep hb).cell (i := 2) rfl
  clear hb
  cases hg : planB P
  · have HE : Hid (fmF P = ([], false)) := by show _ = _; unfold fmF; rw [if_neg (by simp [hg])]
    go_wp2
    go_ret2
    rw [HE.out]
    exact ⟨_, _, rfl, Or.inl ⟨rfl, rfl⟩, HF.out⟩
  · have HE : Hid (fmF P = (fmL P P.net.fibers.length, true)) := by show _ = _; unfold fmF; rw [if_pos hg]
    have HC := Lib.hid (fiberMasks_any _ P _ (HP.out.keep HF.out) hg)
    have HS := Lib.hid HF.out.size
    clear hg
    go_wp2_with fail
    refine (HC.out).mono ?_
    rintro e w2 ⟨pr, cr, rfl, ho, hb⟩
    have HO := Lib.hid ho
    have HF := Lib.hid (fstep HF.out hb)
    clear ho hb
    go_wp2
    go_ret2
    rw [HE.out]
    exact ⟨pr, cr, by simp only [fmL_len]; rfl, HO.out.mono HS.out, HF.out⟩
end Go.Proofs.Ytjaacinngfblkaa
