/- Contracts: CollidingLights, the program's side. -/
import Derived.Test.YtjaacinngfblkaaCl
namespace Go.Proofs.Ytjaacinngfblkaa
open Go.RowKit Go.PlainAid

set_option maxHeartbeats 4000000 in
set_option maxRecDepth 100000 in
theorem implCollidingLights_any (v : Value) (P : PlanV) (u : Value) (X : LtV) (w : World) (h : PlIn w v P) (hu : LgIn w u X) :
    Calls Try.prog 28 #[v, u] w (fun e w' => ∃ p c, e = .returned (.tuple #[.slice p (clF P X).1.length c, .bool (clF P X).2]) ∧ Own w' w.heap.size 3 p ((clF P X).1.map iv) ∧ Fresh w w') := by
  have HP := Lib.hid h
  obtain ⟨q, m, c, p, k0, d, r, e0, l, hv, hN, hL, hs, hLv, he1, he2⟩ := h
  subst hv
  obtain ⟨x, hx, hxi, hxn, hxv⟩ := hu
  subst hx
  have hlen : P.lights.length = l.length := by rw [hLv]; simp
  have HN := Lib.hid hN
  have HL := Lib.hid hL
  have HLV := Lib.hid hLv
  have HSM := Lib.hid hs
  have HXI := Lib.hid hxi
  have HXV := Lib.hid hxv
  have HLEN := Lib.hid hlen
  have hn := hs.1
  clear hN hL hLv hs hxi hxv hlen
  obtain ⟨W2, hW2, hsz2, hf2, r1, r2⟩ := two_rows w [.slice q m c, .slice p k0 d, .slice r l.length e0] [.int .i64 x.id, .int .i64 x.r.start, .slice x.r.q x.r.fibs.length x.r.cap, .int .i64 x.f, .int .i64 x.c] 68 73
  have HS2 := Lib.hid hf2.size
  have HF2 := Lib.hid hf2
  have HR := Lib.hid (And.intro r1 r2)
  have HW2 := Lib.hid hW2
  have a0 := r1.cell (i := 0) rfl
  have a1 := r1.cell (i := 1) rfl
  have a2 := r1.cell (i := 2) rfl
  clear hf2 r1 r2 hW2 hsz2
  go_enter Try.func28, Try.ntmps28
  go_wp2_with fail
  rw [← HW2.out]
  refine (implIsValidPlan_any _ P _ (HP.out.keep HF2.out)).mono ?_
  rintro e w1 ⟨rfl, hb⟩
  have HF := Lib.hid hb
  clear hb a0 a1 a2
  cases hg : planB P
  · have HE : Hid (clF P X = ([], false)) := by show _ = _; unfold clF; rw [if_neg (by simp [hg])]
    go_wp2
    go_ret2
    rw [HE.out]
    exact ⟨_, _, rfl, Or.inl ⟨rfl, rfl⟩, fstep HF2.out HF.out⟩
  · have HG := Lib.hid hg
    have a0 := (HR.out.1.keep HF.out).cell (i := 0) rfl
    have a1 := (HR.out.1.keep HF.out).cell (i := 1) rfl
    have a2 := (HR.out.1.keep HF.out).cell (i := 2) rfl
    have b0 := (HR.out.2.keep HF.out).cell (i := 0) rfl
    have b1 := (HR.out.2.keep HF.out).cell (i := 1) rfl
    have b2 := (HR.out.2.keep HF.out).cell (i := 2) rfl
    have b3 := (HR.out.2.keep HF.out).cell (i := 3) rfl
    have b4 := (HR.out.2.keep HF.out).cell (i := 4) rfl
    have HLC := Lib.hid (isLight_any _ P.net x _ (HN.out.keep (fstep HF2.out HF.out)) (HXI.out.keep (fstep HF2.out HF.out)) hxn)
    rw [← HXV.out] at HLC
    clear hg
    go_wp2_with fail
    refine (HLC.out).mono ?_
    rintro e w2 ⟨rfl, hb⟩
    have HF := Lib.hid (fstep HF.out hb)
    clear hb a0 a1 a2 b0 b1 b2 b3 b4 HLC
    cases hlt : ltB P.net X
    · have HE : Hid (clF P X = ([], false)) := by show _ = _; unfold clF; rw [if_neg (by simp [hlt])]
      go_wp2
      go_ret2
      rw [HE.out]
      exact ⟨_, _, rfl, Or.inl ⟨rfl, rfl⟩, fstep HF2.out HF.out⟩
    · have HE : Hid (clF P X = (clTo P.lights X P.lights.length, true)) := by show _ = _; unfold clF; rw [if_pos ⟨HG.out, hlt⟩]
      have HGX : Hid (goodB x.f x.c = true) := by
        have := ltB_good hlt
        rw [HXV.out] at this
        exact this
      have HGL : Hid (∀ y ∈ P.lights, goodB y.2.2.1 y.2.2.2 = true) := fun y hy => ltB_good (planB_lt HG.out y hy)
      have hid : x.id = X.1 := by rw [HXV.out]; try rfl
      have HID := Lib.hid hid
      have hsw := HF.out.size
      clear hlt hid
      obtain ⟨W3, hW3⟩ : ∃ W3, W3 = w2.alloc (.cells #[] 3) := ⟨_, rfl⟩
      have hf3 : Fresh w2 W3 := by rw [hW3]; exact fnew (frefl _) _
      have hown3 : W3.ownsRow W2.heap.size 3 1 (.slice (some ⟨w2.heap.size, 0, none⟩) 0 0) 0 ([].map iv) := by rw [hW3]; exact World.ownsRow_made w2 #[] 0 hsw (by simp [maxLen]) rfl
      have HF3 := Lib.hid (fstep HF.out hf3)
      have a2 := (HR.out.1.keep HF3.out).cell (i := 2) rfl
      rw [hW3] at a2
      have HO3 := Lib.hid hown3
      have HW3 := Lib.hid hW3
      rw [HLEN.out] at HE
      clear hf3 hown3 hW3 hsw
      go_wp2
      rw [← HW3.out]
      go_loopw [6, 23] (fun o j wr => ∃ k : Nat, k ≤ l.length ∧ j = .int .i64 k ∧ wr.ownsRow W2.heap.size 3 1 o (clTo P.lights X k).length ((clTo P.lights X k).map iv) ∧ Fresh W2 wr) (fun _ j _ => l.length - (intOf j).toNat)
      case atStart => exact ⟨0, Nat.zero_le _, rfl, HO3.out, HF3.out⟩
      case round =>
        obtain ⟨k, hk, rfl, hown, hf⟩ := hrel
        have HO := Lib.hid hown
        have HF := Lib.hid hf
        have hil := clTo_len P.lights X k
        clear hown hf a2
        by_cases hlt : k < l.length
        · have hltz : (k : Int) < (l.length : Int) := by omega
          obtain ⟨bb, oo, y, hpp, hy, hym, hyi, d0, d1, d2, d3, d4⟩ := (HL.out.keep (fstep HF2.out HF.out)).at hlt
          subst hpp
          have hyv : P.lights[k]? = some y.val := by rw [HLV.out]; simp [hy]
          have hgy : goodB y.f y.c = true := HGL.out y.val (List.mem_of_getElem? hyv)
          have hsy := HSM.out.2 y hym
          have HC2 : Hid (∀ w', Fresh wr w' → Calls Try.prog 73 #[llV y, llV x] w' fun e w2 => e = .returned (.bool (colB y.val X)) ∧ Fresh w' w2) := by
            intro w' hf'
            have := collide_any y x w' hgy HGX.out (hyi.keep hf') ((HXI.out.keep (fstep HF2.out HF.out)).keep hf') hsy hxn
            rw [← HXV.out] at this
            exact this
          obtain ⟨W4, hW4⟩ : ∃ W4, W4 = wr.alloc (.cells #[.int .i64 y.id, .int .i64 y.r.start, .slice y.r.q y.r.fibs.length y.r.cap, .int .i64 y.f, .int .i64 y.c] 73) := ⟨_, rfl⟩
          have hf4 : Fresh wr W4 := by rw [hW4]; exact fnew (frefl _) _
          have HF4 := Lib.hid hf4
          have HBX : Hid (RowAt W4 wr.heap.size 73 [.int .i64 y.id, .int .i64 y.r.start, .slice y.r.q y.r.fibs.length y.r.cap, .int .i64 y.f, .int .i64 y.c]) := by show RowAt _ _ _ _; rw [hW4]; exact RowAt.new _ _ _
          have b0 := (HR.out.2.keep (fstep HF.out hf4)).cell (i := 0) rfl
          have b1 := (HR.out.2.keep (fstep HF.out hf4)).cell (i := 1) rfl
          have b2 := (HR.out.2.keep (fstep HF.out hf4)).cell (i := 2) rfl
          have b3 := (HR.out.2.keep (fstep HF.out hf4)).cell (i := 3) rfl
          have b4 := (HR.out.2.keep (fstep HF.out hf4)).cell (i := 4) rfl
          rw [hW4] at b0 b1 b2 b3 b4
          have HW4 := Lib.hid hW4
          have HYV := Lib.hid hyv
          obtain ⟨I, hI⟩ : ∃ I, I = clTo P.lights X k := ⟨_, rfl⟩
          clear hy hym hyi hyv hgy hf4 hW4
          by_cases hne : y.id = x.id
          · have HN1 : Hid (clTo P.lights X (k + 1) = I) := by show _ = _; rw [hI]; exact clTo_same HYV.out (by rw [← HID.out]; exact hne)
            rw [← hI] at HO hil
            have hnd : (y.id != x.id) = false := by simp [hne]
            have HO2 := Lib.hid (ownsRow_keep HO.out HF4.out)
            clear hI hne
            go_wp2
            rw [← HW4.out]
            go_roundw
            case rel => exact ⟨k + 1, by omega, by go_num, by rw [HN1.out]; exact HO2.out, fstep HF.out HF4.out⟩
            case measure => simp [intOf]; omega
          · have hnd : (y.id != x.id) = true := by simp [hne]
            cases hcc : colB y.val X
            · have HN1 : Hid (clTo P.lights X (k + 1) = I) := by show _ = _; rw [hI]; exact clTo_no HYV.out hcc
              rw [hcc] at HC2
              rw [← hI] at HO hil
              clear hI hcc hne
              go_wp2_with fail
              rw [← HW4.out]
              refine (HC2.out _ HF4.out).mono ?_
              rintro e w5 ⟨rfl, hb5⟩
              have HO2 := Lib.hid (ownsRow_keep HO.out (fstep HF4.out hb5))
              have HF5 := Lib.hid (fstep (fstep HF.out HF4.out) hb5)
              clear hb5 b0 b1 b2 b3 b4
              go_wp2
              go_roundw
              case rel => exact ⟨k + 1, by omega, by go_num, by rw [HN1.out]; exact HO2.out, HF5.out⟩
              case measure => simp [intOf]; omega
            · have HN1 : Hid (clTo P.lights X (k + 1) = I ++ [y.id]) := by show _ = _; rw [hI]; exact clTo_yes HYV.out (by rw [← HID.out]; exact hne) hcc
              rw [hcc] at HC2
              rw [← hI] at HO hil
              clear hI hcc hne
              go_wp2_with fail
              rw [← HW4.out]
              refine (HC2.out _ HF4.out).mono ?_
              rintro e w5 ⟨rfl, hb5⟩
              have hown := ownsRow_keep HO.out (fstep HF4.out hb5)
              have HFX := Lib.hid (fstep (fstep HF.out HF4.out) hb5)
              have g0 := (HBX.out.keep hb5).cell (i := 0) rfl
              clear hb5 b0 b1 b2 b3 b4
              go_wp2_with (at_builtin; refine wpList_app_ints W2 _ _ I y.id rfl _ _ rfl rfl hown rfl (by omega) HFX.out ?_; intro v' w3 hown3 hf3)
              have HO4 := Lib.hid hown3
              have HF4' := Lib.hid hf3
              clear hown hown3 hf3
              go_wp2
              go_roundw
              case rel => exact ⟨k + 1, by omega, by go_num, by rw [HN1.out]; exact HO4.out, HF4'.out⟩
              case measure => simp [intOf]; omega
        · have hkl : k = l.length := by omega
          subst hkl
          go_wp2
          go_ret2
          rw [HE.out]
          obtain ⟨pr, cr, hpr, ho⟩ := own_of_row HO.out
          subst hpr
          exact ⟨_, _, rfl, ho.mono HS2.out, fstep HF2.out HF.out⟩
end Go.Proofs.Ytjaacinngfblkaa
