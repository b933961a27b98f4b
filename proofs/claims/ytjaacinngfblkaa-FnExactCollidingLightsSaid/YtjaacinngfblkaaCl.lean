/- Contracts: CollidingLights, both sides. -/
import Derived.Test.YtjaacinngfblkaaKLt
import Derived.Test.YtjaacinngfblkaaFx
namespace Go.Proofs.Ytjaacinngfblkaa
open Go.RowKit Go.PlainAid

def clTo (L : List LtV) (X : LtV) (k : Nat) : List Int := ((L.take k).filter fun y => decide (y.1 ≠ X.1) && colB y X).map fun y => y.1
def clF (P : PlanV) (X : LtV) : List Int × Bool := if planB P = true ∧ ltB P.net X = true then (clTo P.lights X P.lights.length, true) else ([], false)
theorem clTo_yes {L : List LtV} {X y : LtV} {k : Nat} (hy : L[k]? = some y) (h1 : y.1 ≠ X.1) (h2 : colB y X = true) : clTo L X (k + 1) = clTo L X k ++ [y.1] := by
  unfold clTo; rw [List.take_add_one, hy, List.filter_append, List.map_append]; simp [h1, h2]
theorem clTo_same {L : List LtV} {X y : LtV} {k : Nat} (hy : L[k]? = some y) (h1 : y.1 = X.1) : clTo L X (k + 1) = clTo L X k := by
  unfold clTo; rw [List.take_add_one, hy, List.filter_append, List.map_append]; simp [h1]
theorem clTo_no {L : List LtV} {X y : LtV} {k : Nat} (hy : L[k]? = some y) (h2 : colB y X = false) : clTo L X (k + 1) = clTo L X k := by
  unfold clTo; rw [List.take_add_one, hy, List.filter_append, List.map_append]; simp [h2]
theorem clTo_len (L : List LtV) (X : LtV) (k : Nat) : (clTo L X k).length ≤ k := by
  unfold clTo
  rw [List.length_map]
  exact Nat.le_trans (List.length_filter_le _ _) (by simp; omega)
theorem plB_many {P : PlanV} (h : planB P = true) : P.lights.length ≤ 12 := by
  unfold planB at h
  simp only [Bool.and_eq_true, decide_eq_true_eq] at h
  exact h.1.2
theorem clF_len (P : PlanV) (X : LtV) : (clF P X).1.length ≤ 1048576 := by
  unfold clF
  split
  · next h => exact Nat.le_trans (clTo_len _ _ _) (Nat.le_trans (plB_many h.1) (by omega))
  · simp

set_option maxHeartbeats 4000000 in
set_option maxRecDepth 100000 in
theorem specCollidingLights_any (v : Value) (P : PlanV) (u : Value) (X : LtV) (w : World) (h : PlIn w v P) (hu : LgIn w u X) :
    Calls Try.prog 25 #[v, u] w (fun e w' => ∃ p c, e = .returned (.tuple #[.slice p (clF P X).1.length c, .bool (clF P X).2]) ∧ Own w' w.heap.size 3 p ((clF P X).1.map iv) ∧ Fresh w w') := by
  have HP := Lib.hid h
  obtain ⟨q, m, c, p, k0, d, r, e0, l, hv, hN, hL, hs, hLv, he1, he2⟩ := h
  subst hv
  obtain ⟨x, hx, hxi, hxn, hxv⟩ := hu
  subst hx
  have hlen : P.lights.length = l.length := by rw [hLv]; simp
  have HN := Lib.hid hN
  have HL := Lib.hid hL
  have HLV := Lib.hid hLv
  have HSM := Lib.hid hs
  have HXI := Lib.hid hxi
  have HXV := Lib.hid hxv
  have HLEN := Lib.hid hlen
  have hn := hs.1
  clear hN hL hLv hs hxi hxv hlen
  obtain ⟨W2, hW2, hsz2, hf2, r1, r2⟩ := two_rows w [.slice q m c, .slice p k0 d, .slice r l.length e0] [.int .i64 x.id, .int .i64 x.r.start, .slice x.r.q x.r.fibs.length x.r.cap, .int .i64 x.f, .int .i64 x.c] 68 73
  obtain ⟨W3, hW3⟩ : ∃ W3, W3 = W2.alloc (.cells #[] 3) := ⟨_, rfl⟩
  have hf3 : Fresh W2 W3 := by rw [hW3]; exact fnew (frefl _) _
  obtain ⟨Bs, hBs⟩ : ∃ Bs, Bs = W2.heap.size := ⟨_, rfl⟩
  have hown3 : W3.ownsRow Bs 3 1 (.slice (some ⟨w.heap.size + 1 + 1, 0, none⟩) 0 0) 0 ([].map iv) := by rw [← hsz2, hBs, hW3]; exact World.ownsRow_made W2 #[] 0 (Nat.le_refl _) (by simp [maxLen]) rfl
  rw [hBs] at hown3
  have HS2 := Lib.hid hf2.size
  have HF2 := Lib.hid hf2
  have HF3 := Lib.hid hf3
  have HR := Lib.hid (And.intro r1 r2)
  have HW2 := Lib.hid hW2
  have HW3 := Lib.hid hW3
  have HO3 := Lib.hid hown3
  have a0 := (r1.keep hf3).cell (i := 0) rfl
  have a1 := (r1.keep hf3).cell (i := 1) rfl
  have a2 := (r1.keep hf3).cell (i := 2) rfl
  clear hf2 hf3 r1 r2 hW2 hW3 hown3 hBs hsz2
  go_enter Try.func25, Try.ntmps25
  go_wp2_with fail
  rw [← HW2.out, ← HW3.out]
  refine (l9Good_any _ P _ (HP.out.keep (fstep HF2.out HF3.out))).mono ?_
  rintro e w1 ⟨rfl, hb⟩
  have HO := Lib.hid (ownsRow_keep HO3.out hb)
  have HF := Lib.hid (fstep HF3.out hb)
  clear hb a0 a1 a2
  cases hg : planB P
  · have HE : Hid (clF P X = ([], false)) := by show _ = _; unfold clF; rw [if_neg (by simp [hg])]
    go_wp2
    go_ret2
    rw [HE.out]
    obtain ⟨pr, cr, hpr, ho⟩ := own_of_row HO.out
    cases hpr
    exact ⟨_, _, rfl, ho.mono HS2.out, fstep HF2.out HF.out⟩
  · have hnet := plB_net hg
    have HG := Lib.hid hg
    have a0 := (HR.out.1.keep HF.out).cell (i := 0) rfl
    have a1 := (HR.out.1.keep HF.out).cell (i := 1) rfl
    have a2 := (HR.out.1.keep HF.out).cell (i := 2) rfl
    have b0 := (HR.out.2.keep HF.out).cell (i := 0) rfl
    have b1 := (HR.out.2.keep HF.out).cell (i := 1) rfl
    have b2 := (HR.out.2.keep HF.out).cell (i := 2) rfl
    have b3 := (HR.out.2.keep HF.out).cell (i := 3) rfl
    have b4 := (HR.out.2.keep HF.out).cell (i := 4) rfl
    have HLC := Lib.hid (l9Light_any _ P.net x _ (HN.out.keep (fstep HF2.out HF.out)) hnet (HXI.out.keep (fstep HF2.out HF.out)) hxn)
    rw [← HXV.out] at HLC
    clear hg hnet
    go_wp2_with fail
    refine (HLC.out).mono ?_
    rintro e w2 ⟨rfl, hb⟩
    have HO := Lib.hid (ownsRow_keep HO.out hb)
    have HF := Lib.hid (fstep HF.out hb)
    clear hb a0 a1 a2 b0 b1 b2 b3 b4 HLC
    cases hlt : ltB P.net X
    · have HE : Hid (clF P X = ([], false)) := by show _ = _; unfold clF; rw [if_neg (by simp [hlt])]
      go_wp2
      go_ret2
      rw [HE.out]
      obtain ⟨pr, cr, hpr, ho⟩ := own_of_row HO.out
      cases hpr
      exact ⟨_, _, rfl, ho.mono HS2.out, fstep HF2.out HF.out⟩
    · have HE : Hid (clF P X = (clTo P.lights X P.lights.length, true)) := by show _ = _; unfold clF; rw [if_pos ⟨HG.out, hlt⟩]
      have HGX : Hid (goodB x.f x.c = true) := by
        have := ltB_good hlt
        rw [HXV.out] at this
        exact this
      have HGL : Hid (∀ y ∈ P.lights, goodB y.2.2.1 y.2.2.2 = true) := fun y hy => ltB_good (planB_lt HG.out y hy)
      have hid : x.id = X.1 := by rw [HXV.out]; try rfl
      have HID := Lib.hid hid
      clear hlt hid
      have a2 := (HR.out.1.keep HF.out).cell (i := 2) rfl
      rw [HLEN.out] at HE
      go_wp2
      go_loopw [6, 7] (fun o j wr => ∃ k : Nat, k ≤ l.length ∧ j = .int .i64 k ∧ wr.ownsRow W2.heap.size 3 1 o (clTo P.lights X k).length ((clTo P.lights X k).map iv) ∧ Fresh W2 wr) (fun _ j _ => l.length - (intOf j).toNat)
      case atStart => exact ⟨0, Nat.zero_le _, rfl, HO.out, HF.out⟩
      case round =>
        obtain ⟨k, hk, rfl, hown, hf⟩ := hrel
        have HO := Lib.hid hown
        have HF := Lib.hid hf
        have hil := clTo_len P.lights X k
        have a2 := (HR.out.1.keep hf).cell (i := 2) rfl
        clear hown hf
        by_cases hlt : k < l.length
        · have hltz : (k : Int) < (l.length : Int) := by omega
          obtain ⟨bb, oo, y, hpp, hy, hym, hyi, d0, d1, d2, d3, d4⟩ := (HL.out.keep (fstep HF2.out HF.out)).at hlt
          subst hpp
          have hyv : P.lights[k]? = some y.val := by rw [HLV.out]; simp [hy]
          have hgy : goodB y.f y.c = true := HGL.out y.val (List.mem_of_getElem? hyv)
          have hsy := HSM.out.2 y hym
          have HC2 : Hid (∀ xa : After wr, Calls Try.prog 68 #[llV y, llV x] xa.w' fun e w' => e = .returned (.bool (colB y.val X)) ∧ Fresh xa.w' w') := by
            intro xa
            have := l9Collide_any y x xa.w' hgy HGX.out (hyi.keep xa.h) ((HXI.out.keep (fstep HF2.out HF.out)).keep xa.h) hsy hxn
            rw [← HXV.out] at this
            exact this
          have b0 := (HR.out.2.keep HF.out).cell (i := 0) rfl
          have b1 := (HR.out.2.keep HF.out).cell (i := 1) rfl
          have b2 := (HR.out.2.keep HF.out).cell (i := 2) rfl
          have b3 := (HR.out.2.keep HF.out).cell (i := 3) rfl
          have b4 := (HR.out.2.keep HF.out).cell (i := 4) rfl
          have q2 := fun xa : After wr => akeep a2 xa
          have i0 := fun xa : After wr => akeep b0 xa
          have i1 := fun xa : After wr => akeep b1 xa
          have i2 := fun xa : After wr => akeep b2 xa
          have i3 := fun xa : After wr => akeep b3 xa
          have i4 := fun xa : After wr => akeep b4 xa
          have j0 := fun xa : After wr => akeep d0 xa
          have j1 := fun xa : After wr => akeep d1 xa
          have j2 := fun xa : After wr => akeep d2 xa
          have j3 := fun xa : After wr => akeep d3 xa
          have j4 := fun xa : After wr => akeep d4 xa
          have HYV := Lib.hid hyv
          obtain ⟨I, hI⟩ : ∃ I, I = clTo P.lights X k := ⟨_, rfl⟩
          clear hy hym hyi hyv hgy
          by_cases hne : y.id = x.id
          · have HN1 : Hid (clTo P.lights X (k + 1) = I) := by show _ = _; rw [hI]; exact clTo_same HYV.out (by rw [← HID.out]; exact hne)
            rw [← hI] at HO hil
            have hnd : (y.id != x.id) = false := by simp [hne]
            clear hI hne
            go_wp2
            refine wp_region_after (by kernel_rfl) (by kernel_rfl) ?_
            repeat (go_big_quiet_step ((go_at_call 68; exact after_call (HC2.out _))))
            refine wpQuiet_nil ?_
            rintro _ ⟨xa, rfl⟩
            have HO2 := Lib.hid (ownsRow_keep HO.out xa.h)
            go_wp2
            go_roundw
            case rel => exact ⟨k + 1, by omega, by go_num, by rw [HN1.out]; exact HO2.out, fstep HF.out xa.h⟩
            case measure => simp [intOf]; omega
          · have hnd : (y.id != x.id) = true := by simp [hne]
            cases hcc : colB y.val X
            · have HN1 : Hid (clTo P.lights X (k + 1) = I) := by show _ = _; rw [hI]; exact clTo_no HYV.out hcc
              rw [hcc] at HC2
              rw [← hI] at HO hil
              clear hI hcc hne
              go_wp2
              refine wp_region_after (by kernel_rfl) (by kernel_rfl) ?_
              repeat (go_big_quiet_step ((go_at_call 68; exact after_call (HC2.out _))))
              refine wpQuiet_nil ?_
              rintro _ ⟨xa, rfl⟩
              have HO2 := Lib.hid (ownsRow_keep HO.out xa.h)
              go_wp2
              go_roundw
              case rel => exact ⟨k + 1, by omega, by go_num, by rw [HN1.out]; exact HO2.out, fstep HF.out xa.h⟩
              case measure => simp [intOf]; omega
            · have HN1 : Hid (clTo P.lights X (k + 1) = I ++ [y.id]) := by show _ = _; rw [hI]; exact clTo_yes HYV.out (by rw [← HID.out]; exact hne) hcc
              rw [hcc] at HC2
              rw [← hI] at HO hil
              clear hI hcc hne
              go_wp2
              refine wp_region_after (by kernel_rfl) (by kernel_rfl) ?_
              repeat (go_big_quiet_step ((go_at_call 68; exact after_call (HC2.out _))))
              refine wpQuiet_nil ?_
              rintro _ ⟨xa, rfl⟩
              have hown := ownsRow_keep HO.out xa.h
              have HFX := Lib.hid (fstep HF.out xa.h)
              go_wp2_with (at_builtin; refine wpList_app_ints W2 _ _ I y.id rfl _ _ rfl rfl hown rfl (by omega) HFX.out ?_; intro v' w3 hown3 hf3)
              have HO4 := Lib.hid hown3
              have HF4 := Lib.hid hf3
              clear hown hown3 hf3
              go_wp2
              go_roundw
              case rel => exact ⟨k + 1, by omega, by go_num, by rw [HN1.out]; exact HO4.out, HF4.out⟩
              case measure => simp [intOf]; omega
        · have hkl : k = l.length := by omega
          subst hkl
          go_wp2
          go_ret2
          rw [HE.out]
          obtain ⟨pr, cr, hpr, ho⟩ := own_of_row HO.out
          subst hpr
          exact ⟨_, _, rfl, ho.mono HS2.out, fstep HF2.out HF.out⟩
end Go.Proofs.Ytjaacinngfblkaa
