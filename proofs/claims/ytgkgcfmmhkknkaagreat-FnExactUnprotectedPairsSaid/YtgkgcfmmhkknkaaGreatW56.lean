/- The walk of FnExactUnprotectedPairs. -/
import Derived.Test.YtgkgcfmmhkknkaaGreatUp2
import Derived.Test.YtgkgcfmmhkknkaaGreatSs
import Derived.Test.YtgkgcfmmhkknkaaGreatU2
import Derived.Test.YtgkgcfmmhkknkaaGreatU1
import Derived.Deep.RegionHeld3
import Derived.Deep.DeepCutAuto
namespace Go.Proofs.YtgkgcfmmhkknkaaGreat
open Go.RowKit Go.PlainAid

set_option maxHeartbeats 4000000 in
set_option maxRecDepth 100000 in
theorem law_UnprotectedPairs (v0 : Value) (x0 : Net) (x1 : Int) (w : World) (h0 : NetRaw w v0 x0) (bx1 : -9223372036854775808 ≤ x1 ∧ x1 ≤ 9223372036854775807) :
    Calls Tryz.prog 9 #[v0, .int .i64 x1] w fun e w' => e = .returned (.bool true) ∧ Fresh w w' := by
  obtain ⟨bl1, bh1⟩ := bx1
  obtain ⟨q0a, m0a, c0a, p0a, k0a, d0a, hv0⟩ := h0.shape
  subst hv0
  have HI0 := Lib.hid h0
  clear h0
  have hlen := upF_small x0 x1
  obtain ⟨r0, hr0⟩ : ∃ r0, r0 = (upF x0 x1).1 := ⟨_, rfl⟩
  rw [← hr0] at hlen
  have HR0 := Lib.hid hr0
  clear hr0
  obtain ⟨r1, hr1⟩ : ∃ r1, r1 = (upF x0 x1).2 := ⟨_, rfl⟩
  have HR1 := Lib.hid hr1
  clear hr1
  have HSM := Lib.hid hlen
  clear hlen
  obtain ⟨B0, hB0⟩ : ∃ B, B = w.alloc (.cells #[.slice q0a m0a c0a, .slice p0a k0a d0a] 25) := ⟨_, rfl⟩
  have hz0 : B0.heap.size = w.heap.size + 1 := by rw [hB0]; simp
  have hf0 : Fresh w B0 := by rw [hB0]; exact fnew (frefl _) _
  have hrow0 : RowAt B0 w.heap.size 25 [.slice q0a m0a c0a, .slice p0a k0a d0a] := by rw [hB0]; exact RowAt.new _ _ _
  have HF := Lib.hid (fstep (frefl w) hf0)
  have a0_0 := hrow0.cell (i := 0) rfl
  have a0_1 := hrow0.cell (i := 1) rfl
  have HB := Lib.hid (And.intro hB0 trivial)
  clear hB0 hz0 hf0 hrow0
  go_enter Tryz.func9, Tryz.ntmps9
  go_wp2_with fail
  rw [← HB.out.1]
  clear HB
  refine (szNetwork_any _ x0 1048576 _ (NetRaw.keep HI0.out HF.out) (by omega) (by omega)).mono ?_
  rintro e w1 ⟨l0, rfl, l00, l01, hsm, hb⟩
  have HS0 := Lib.hid hsm
  clear hsm
  replace a0_0 := fkeep hb a0_0
  replace a0_1 := fkeep hb a0_1
  have HF := Lib.hid (fstep HF.out hb)
  clear hb
  by_cases hneg0 : l0 < 0
  · go_wp2
    go_ret
    exact ⟨rfl, HF.out⟩
  replace HI0 := Lib.hid (NetRaw.small HI0.out (HS0.out (by omega)))
  clear HS0
  have HSZ0 := Lib.hid HF.out.size
  have HSZ1 := Lib.hid (World.block_lt_of_cell? _ _ a0_0)
  go_wp2_with fail
  refine (toNet_k _ x0 _ (HI0.out.keep HF.out)).mono ?_
  rintro e w2 ⟨y0, rfl, hy, hb⟩
  have HY0 := Lib.hid hy
  clear hy
  have HSZ2 := Lib.hid (hb.size)
  replace a0_0 := fkeep hb a0_0
  replace a0_1 := fkeep hb a0_1
  have HF := Lib.hid (fstep HF.out hb)
  clear hb
  go_wp2_with fail
  have hcc := specUnprotectedPairs_any _ x0 x1 _ HY0.out
  rw [← HR0.out, ← HR1.out] at hcc
  refine (hcc).mono ?_
  clear hcc
  rintro e w3 ⟨vW, rfl, how, hb⟩
  clear HY0
  have HRW := Lib.hid (how.held.wide (Nat.zero_le _) (Nat.le_refl _))
  clear how
  have HSZ3 := Lib.hid (hb.size)
  replace a0_0 := fkeep hb a0_0
  replace a0_1 := fkeep hb a0_1
  have HF := Lib.hid (fstep HF.out hb)
  clear hb
  go_wp2_with fail
  refine (toNet_o _ x0 _ (HI0.out.keep HF.out)).mono ?_
  rintro e w4 ⟨z0, rfl, hy, hm, hb⟩
  have HZ0 := Lib.hid hy
  have HM0 := Lib.hid hm
  clear hy hm
  have HSZ4 := Lib.hid (hb.size)
  replace a0_0 := fkeep hb a0_0
  replace a0_1 := fkeep hb a0_1
  have HF := Lib.hid (fstep HF.out hb)
  replace HRW := Lib.hid (HRW.out.keep hb)
  clear hb
  obtain ⟨q0x, m0x, c0x, p0x, k0x, d0x, hv⟩ := HZ0.out.shape
  subst hv
  obtain ⟨Xx0, hX⟩ : ∃ X, X = w4.alloc (.cells #[.slice q0x m0x c0x, .slice p0x k0x d0x] 31) := ⟨_, rfl⟩
  have hb : Fresh w4 Xx0 := by rw [hX]; exact fnew (frefl _) _
  have HSZ5 := Lib.hid (show Xx0.heap.size = w4.heap.size + 1 by rw [hX]; simp)
  have La0_0 := fkeep (fnew (frefl w4) (.cells #[.slice q0x m0x c0x, .slice p0x k0x d0x] 31)) a0_0
  have La0_1 := fkeep (fnew (frefl w4) (.cells #[.slice q0x m0x c0x, .slice p0x k0x d0x] 31)) a0_1
  have c0_0 : Xx0.cell? ⟨w4.heap.size, 0, none⟩ = some (.slice q0x m0x c0x) := by rw [hX]; exact (RowAt.new w4 31 [.slice q0x m0x c0x, .slice p0x k0x d0x]).cell (i := 0) rfl
  have c0_1 : Xx0.cell? ⟨w4.heap.size, 1, none⟩ = some (.slice p0x k0x d0x) := by rw [hX]; exact (RowAt.new w4 31 [.slice q0x m0x c0x, .slice p0x k0x d0x]).cell (i := 1) rfl
  replace a0_0 := fkeep hb a0_0
  replace a0_1 := fkeep hb a0_1
  have HF := Lib.hid (fstep HF.out hb)
  replace HRW := Lib.hid (HRW.out.keep hb)
  replace HZ0 := Lib.hid (HZ0.out.keep hb)
  replace HM0 := Lib.hid (HM0.out.keep hb)
  clear hb
  have Ha0_0 := Lib.hid a0_0
  have Ha0_1 := Lib.hid a0_1
  have Hc0_0 := Lib.hid c0_0
  have Hc0_1 := Lib.hid c0_1
  clear a0_0 a0_1 c0_0 c0_1
  have HXx0 := Lib.hid hX
  clear hX
  go_wp2_with fail
  rw [← HXx0.out]
  clear HXx0
  clear La0_0 La0_1
  have a0_0 := Ha0_0.out
  have a0_1 := Ha0_1.out
  have c0_0 := Hc0_0.out
  have c0_1 := Hc0_1.out
  clear Ha0_0 Ha0_1 Hc0_0 Hc0_1
  go_wp2_with fail
  have hcc := implUnprotectedPairs_any _ x0 x1 _ HZ0.out
  rw [← HR0.out, ← HR1.out] at hcc
  refine (hcc).mono ?_
  clear hcc
  rintro e w5 ⟨vG, rfl, how, hb⟩
  have HRG := Lib.hid how.held
  clear how
  have HSZ6 := Lib.hid (hb.size)
  replace a0_0 := fkeep hb a0_0
  replace a0_1 := fkeep hb a0_1
  replace c0_0 := fkeep hb c0_0
  replace c0_1 := fkeep hb c0_1
  have HF := Lib.hid (fstep HF.out hb)
  replace HRW := Lib.hid (HRW.out.keep hb)
  replace HZ0 := Lib.hid (HZ0.out.keep hb)
  replace HM0 := Lib.hid (HM0.out.keep hb)
  clear hb
  go_wp2_with fail
  refine (eqSS_r vG vW _ _ _ _ r0 _ (HRG.out) (HRW.out) HSM.out).mono ?_
  rintro e w6 ⟨rfl, hb⟩
  have HSZ7 := Lib.hid (hb.size)
  replace a0_0 := fkeep hb a0_0
  replace a0_1 := fkeep hb a0_1
  replace c0_0 := fkeep hb c0_0
  replace c0_1 := fkeep hb c0_1
  have HF := Lib.hid (fstep HF.out hb)
  replace HRW := Lib.hid (HRW.out.keep hb)
  replace HZ0 := Lib.hid (HZ0.out.keep hb)
  replace HM0 := Lib.hid (HM0.out.keep hb)
  replace HRG := Lib.hid (HRG.out.keep hb)
  clear hb
  go_wp2
  have HSS : Fresh w6 w6 ∧ w6.cell? ⟨w4.heap.size, 0, none⟩ = some (.slice q0x m0x c0x) ∧ w6.cell? ⟨w4.heap.size, 1, none⟩ = some (.slice p0x k0x d0x) ∧ w6.cell? ⟨w.heap.size, 0, none⟩ = some (.slice q0a m0a c0a) ∧ w6.cell? ⟨w.heap.size, 1, none⟩ = some (.slice p0a k0a d0a) := ⟨frefl _, c0_0, c0_1, a0_0, a0_1⟩
  go_region_held3 (fun w' => Fresh w6 w' ∧ w'.cell? ⟨w4.heap.size, 0, none⟩ = some (.slice q0x m0x c0x) ∧ w'.cell? ⟨w4.heap.size, 1, none⟩ = some (.slice p0x k0x d0x) ∧ w'.cell? ⟨w.heap.size, 0, none⟩ = some (.slice q0a m0a c0a) ∧ w'.cell? ⟨w.heap.size, 1, none⟩ = some (.slice p0a k0a d0a))
    (first | assumption | exact keepc4 (by assumption) (by assumption) | exact keepc4 (by assumption) (fdrew (frefl _)) | exact keepc4 (by assumption) (frefl _))
    (first | (go_at_call 13; refine (toNet_k _ x0 _ (HI0.out.keep (fstep HF.out (And.left (by assumption))))).mono ?_; rintro e w7 ⟨t0, rfl, hy, hb10⟩; have HT0 := Lib.hid hy; clear hy) | (go_at_call 15; refine (eqNetwork_same _ _ x0 _ (HZ0.out.keep (And.left (by assumption))) HT0.out).mono ?_; rintro e w8 ⟨rfl, hb11⟩))
  have hb : Fresh w6 w8 := fstep (fstep (fdrew (frefl _)) hb10) hb11
  clear hb10 hb11 HSS HT0
  have HSZ8 := Lib.hid (hb.size)
  replace a0_0 := fkeep hb a0_0
  replace a0_1 := fkeep hb a0_1
  replace c0_0 := fkeep hb c0_0
  replace c0_1 := fkeep hb c0_1
  have HF := Lib.hid (fstep HF.out hb)
  replace HRW := Lib.hid (HRW.out.keep hb)
  replace HZ0 := Lib.hid (HZ0.out.keep hb)
  replace HM0 := Lib.hid (HM0.out.keep hb)
  replace HRG := Lib.hid (HRG.out.keep hb)
  clear hb
  clear HZ0
  go_wp2_with fail
  refine (markNet_m _ (w3.heap.size) (w4.heap.size) 1 _ HM0.out (by have s0 := HSZ0.out; have s1 := HSZ1.out; have s2 := HSZ2.out; have s3 := HSZ3.out; have s4 := HSZ4.out; have s5 := HSZ5.out; have s6 := HSZ6.out; have s7 := HSZ7.out; have s8 := HSZ8.out; omega) (by have s0 := HSZ0.out; have s1 := HSZ1.out; have s2 := HSZ2.out; have s3 := HSZ3.out; have s4 := HSZ4.out; have s5 := HSZ5.out; have s6 := HSZ6.out; have s7 := HSZ7.out; have s8 := HSZ8.out; omega) (by omega) (by omega)).mono ?_
  rintro e w9 ⟨k0, rfl, hka0, hkb0, hb⟩
  clear HM0
  replace hkb0 : k0 ≤ 1 + 8796093022208 := hkb0
  have HSZ9 := Lib.hid (hb.low.size)
  replace a0_0 := Mk.cell hb (by first | exact Or.inl (by have s0 := HSZ0.out; have s1 := HSZ1.out; have s2 := HSZ2.out; have s3 := HSZ3.out; have s4 := HSZ4.out; have s5 := HSZ5.out; have s6 := HSZ6.out; have s7 := HSZ7.out; have s8 := HSZ8.out; have s9 := HSZ9.out; omega) | exact Or.inr (by have s0 := HSZ0.out; have s1 := HSZ1.out; have s2 := HSZ2.out; have s3 := HSZ3.out; have s4 := HSZ4.out; have s5 := HSZ5.out; have s6 := HSZ6.out; have s7 := HSZ7.out; have s8 := HSZ8.out; have s9 := HSZ9.out; omega)) a0_0
  replace a0_1 := Mk.cell hb (by first | exact Or.inl (by have s0 := HSZ0.out; have s1 := HSZ1.out; have s2 := HSZ2.out; have s3 := HSZ3.out; have s4 := HSZ4.out; have s5 := HSZ5.out; have s6 := HSZ6.out; have s7 := HSZ7.out; have s8 := HSZ8.out; have s9 := HSZ9.out; omega) | exact Or.inr (by have s0 := HSZ0.out; have s1 := HSZ1.out; have s2 := HSZ2.out; have s3 := HSZ3.out; have s4 := HSZ4.out; have s5 := HSZ5.out; have s6 := HSZ6.out; have s7 := HSZ7.out; have s8 := HSZ8.out; have s9 := HSZ9.out; omega)) a0_1
  replace c0_0 := Mk.cell hb (by first | exact Or.inl (by have s0 := HSZ0.out; have s1 := HSZ1.out; have s2 := HSZ2.out; have s3 := HSZ3.out; have s4 := HSZ4.out; have s5 := HSZ5.out; have s6 := HSZ6.out; have s7 := HSZ7.out; have s8 := HSZ8.out; have s9 := HSZ9.out; omega) | exact Or.inr (by have s0 := HSZ0.out; have s1 := HSZ1.out; have s2 := HSZ2.out; have s3 := HSZ3.out; have s4 := HSZ4.out; have s5 := HSZ5.out; have s6 := HSZ6.out; have s7 := HSZ7.out; have s8 := HSZ8.out; have s9 := HSZ9.out; omega)) c0_0
  replace c0_1 := Mk.cell hb (by first | exact Or.inl (by have s0 := HSZ0.out; have s1 := HSZ1.out; have s2 := HSZ2.out; have s3 := HSZ3.out; have s4 := HSZ4.out; have s5 := HSZ5.out; have s6 := HSZ6.out; have s7 := HSZ7.out; have s8 := HSZ8.out; have s9 := HSZ9.out; omega) | exact Or.inr (by have s0 := HSZ0.out; have s1 := HSZ1.out; have s2 := HSZ2.out; have s3 := HSZ3.out; have s4 := HSZ4.out; have s5 := HSZ5.out; have s6 := HSZ6.out; have s7 := HSZ7.out; have s8 := HSZ8.out; have s9 := HSZ9.out; omega)) c0_1
  have HF := Lib.hid (Mk.fresh_of HF.out hb (by have s0 := HSZ0.out; have s1 := HSZ1.out; have s2 := HSZ2.out; have s3 := HSZ3.out; have s4 := HSZ4.out; have s5 := HSZ5.out; have s6 := HSZ6.out; have s7 := HSZ7.out; have s8 := HSZ8.out; have s9 := HSZ9.out; omega))
  replace HRW := Lib.hid (HRW.out.mk hb (by first | exact Or.inl (by have s0 := HSZ0.out; have s1 := HSZ1.out; have s2 := HSZ2.out; have s3 := HSZ3.out; have s4 := HSZ4.out; have s5 := HSZ5.out; have s6 := HSZ6.out; have s7 := HSZ7.out; have s8 := HSZ8.out; have s9 := HSZ9.out; omega) | exact Or.inr (by have s0 := HSZ0.out; have s1 := HSZ1.out; have s2 := HSZ2.out; have s3 := HSZ3.out; have s4 := HSZ4.out; have s5 := HSZ5.out; have s6 := HSZ6.out; have s7 := HSZ7.out; have s8 := HSZ8.out; have s9 := HSZ9.out; omega)))
  replace HRG := Lib.hid (HRG.out.mk hb (by first | exact Or.inl (by have s0 := HSZ0.out; have s1 := HSZ1.out; have s2 := HSZ2.out; have s3 := HSZ3.out; have s4 := HSZ4.out; have s5 := HSZ5.out; have s6 := HSZ6.out; have s7 := HSZ7.out; have s8 := HSZ8.out; have s9 := HSZ9.out; omega) | exact Or.inr (by have s0 := HSZ0.out; have s1 := HSZ1.out; have s2 := HSZ2.out; have s3 := HSZ3.out; have s4 := HSZ4.out; have s5 := HSZ5.out; have s6 := HSZ6.out; have s7 := HSZ7.out; have s8 := HSZ8.out; have s9 := HSZ9.out; omega)))
  clear hb
  clear c0_0 c0_1
  have hkn : (k0 < 0) = False := eq_false (by omega)
  go_wp2_with fail
  refine (eqSS_r vG vW _ _ _ _ r0 _ (HRG.out) (HRW.out) HSM.out).mono ?_
  rintro e w10 ⟨rfl, hb⟩
  have HSZ10 := Lib.hid (hb.size)
  replace a0_0 := fkeep hb a0_0
  replace a0_1 := fkeep hb a0_1
  have HF := Lib.hid (fstep HF.out hb)
  replace HRW := Lib.hid (HRW.out.keep hb)
  replace HRG := Lib.hid (HRG.out.keep hb)
  clear hb
  clear hkn hka0 hkb0
  go_wp2_with fail
  refine (markSS_r vG (Xx0.heap.size) r0 1 _ HRG.out.own HSM.out (by omega) (by omega)).mono ?_
  rintro e w11 ⟨rfl, ho, hb⟩
  have HG := Lib.hid ho
  clear ho HRG
  have HSZ11 := Lib.hid (hb.size)
  replace a0_0 := bkeep hb (by have s0 := HSZ0.out; have s1 := HSZ1.out; have s2 := HSZ2.out; have s3 := HSZ3.out; have s4 := HSZ4.out; have s5 := HSZ5.out; have s6 := HSZ6.out; have s7 := HSZ7.out; have s8 := HSZ8.out; have s9 := HSZ9.out; have s10 := HSZ10.out; have s11 := HSZ11.out; omega) a0_0
  replace a0_1 := bkeep hb (by have s0 := HSZ0.out; have s1 := HSZ1.out; have s2 := HSZ2.out; have s3 := HSZ3.out; have s4 := HSZ4.out; have s5 := HSZ5.out; have s6 := HSZ6.out; have s7 := HSZ7.out; have s8 := HSZ8.out; have s9 := HSZ9.out; have s10 := HSZ10.out; have s11 := HSZ11.out; omega) a0_1
  have HF := Lib.hid (HF.out.trans (hb.mono (by have s0 := HSZ0.out; have s1 := HSZ1.out; have s2 := HSZ2.out; have s3 := HSZ3.out; have s4 := HSZ4.out; have s5 := HSZ5.out; have s6 := HSZ6.out; have s7 := HSZ7.out; have s8 := HSZ8.out; have s9 := HSZ9.out; have s10 := HSZ10.out; have s11 := HSZ11.out; omega)))
  replace HRW := Lib.hid (HRW.out.below hb (by have s0 := HSZ0.out; have s1 := HSZ1.out; have s2 := HSZ2.out; have s3 := HSZ3.out; have s4 := HSZ4.out; have s5 := HSZ5.out; have s6 := HSZ6.out; have s7 := HSZ7.out; have s8 := HSZ8.out; have s9 := HSZ9.out; have s10 := HSZ10.out; have s11 := HSZ11.out; omega))
  clear hb
  go_wp2_with fail
  refine (heldSS_o vG _ r0 1 _ HG.out HSM.out (by omega) (by omega)).mono ?_
  rintro e w12 ⟨rfl, hb⟩
  have HSZ12 := Lib.hid (hb.size)
  replace a0_0 := fkeep hb a0_0
  replace a0_1 := fkeep hb a0_1
  have HF := Lib.hid (fstep HF.out hb)
  replace HRW := Lib.hid (HRW.out.keep hb)
  replace HG := Lib.hid (HG.out.keep hb)
  clear hb
  go_wp2_with fail
  refine (toNet_k _ x0 _ (HI0.out.keep HF.out)).mono ?_
  rintro e w13 ⟨u0, rfl, hy, hb⟩
  have HY0 := Lib.hid hy
  clear hy
  have HSZ13 := Lib.hid (hb.size)
  replace a0_0 := fkeep hb a0_0
  replace a0_1 := fkeep hb a0_1
  have HF := Lib.hid (fstep HF.out hb)
  replace HRW := Lib.hid (HRW.out.keep hb)
  replace HG := Lib.hid (HG.out.keep hb)
  clear hb
  go_wp2_with fail
  have hcc := implUnprotectedPairs_any _ x0 x1 _ HY0.out
  rw [← HR0.out, ← HR1.out] at hcc
  refine (hcc).mono ?_
  clear hcc
  rintro e w14 ⟨vH, rfl, how, hb⟩
  clear HY0
  have HRH := Lib.hid (how.held.wide (Nat.zero_le _) (Nat.le_refl _))
  clear how
  have HSZ14 := Lib.hid (hb.size)
  replace a0_0 := fkeep hb a0_0
  replace a0_1 := fkeep hb a0_1
  have HF := Lib.hid (fstep HF.out hb)
  replace HRW := Lib.hid (HRW.out.keep hb)
  replace HG := Lib.hid (HG.out.keep hb)
  clear hb
  go_wp2_with fail
  refine (eqSS_r vH vW _ _ _ _ r0 _ (HRH.out) (HRW.out) HSM.out).mono ?_
  rintro e w15 ⟨rfl, hb⟩
  have HSZ15 := Lib.hid (hb.size)
  replace a0_0 := fkeep hb a0_0
  replace a0_1 := fkeep hb a0_1
  have HF := Lib.hid (fstep HF.out hb)
  replace HRW := Lib.hid (HRW.out.keep hb)
  replace HG := Lib.hid (HG.out.keep hb)
  replace HRH := Lib.hid (HRH.out.keep hb)
  clear hb
  go_wp2_with fail
  refine (heldSS_o vG _ r0 1 _ HG.out HSM.out (by omega) (by omega)).mono ?_
  rintro e w16 ⟨rfl, hb⟩
  have HSZ16 := Lib.hid (hb.size)
  replace a0_0 := fkeep hb a0_0
  replace a0_1 := fkeep hb a0_1
  have HF := Lib.hid (fstep HF.out hb)
  replace HRW := Lib.hid (HRW.out.keep hb)
  replace HG := Lib.hid (HG.out.keep hb)
  replace HRH := Lib.hid (HRH.out.keep hb)
  clear hb
  go_wp2
  go_ret
  exact ⟨rfl, HF.out⟩
end Go.Proofs.YtgkgcfmmhkknkaaGreat
