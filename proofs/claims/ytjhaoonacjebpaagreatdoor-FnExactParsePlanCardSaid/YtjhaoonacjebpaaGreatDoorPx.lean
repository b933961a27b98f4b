/- Contracts: the text of a light and of a plan, both sides. -/
import Derived.Test.YtjhaoonacjebpaaGreatDoorRx
namespace Go.Proofs.YtjhaoonacjebpaaGreatDoor
open Go.RowKit Go.PlainAid

theorem routeX_len {n : Net} (h : netB n = true) {r : Int × List Int} (hv : isVis n r.1 r.2 = true) : (routeX n r).length ≤ 144 := by
  obtain ⟨out, hout⟩ := IsRt.vis (w := routeX n r) ⟨hv, rfl⟩
  obtain ⟨_, _, _, _, v4⟩ := vis_is hout
  have := (vis_nodes h hout).2
  rw [routeX_of hout]
  have := rtTo_len h (out := out) v4 r.2.length (Nat.le_refl _)
  omega
theorem blkT_len {f c : Int} (h : goodB f c = true) : (blkT f c).length ≤ 15 := by
  have hg := goodB_is h
  have h1 := itoa_len (n := f) (by omega) (by omega)
  have h2 := itoa_len (n := c) (by omega) (by omega)
  unfold blkT
  rw [List.length_append, List.length_cons]; omega
def lightR (n : Net) (x : LtV) : List UInt8 := Lib.itoa x.1 ++ (32 :: (routeX n x.2.1 ++ (32 :: blkT x.2.2.1 x.2.2.2)))
theorem lightR_len {n : Net} (h : netB n = true) {x : LtV} (hx : ltB n x = true) : (lightR n x).length ≤ 170 := by
  obtain ⟨h1, h2, h3⟩ := ltB_is hx
  have a1 := itoa_len (n := x.1) (by omega) (by omega)
  have a2 := routeX_len h h2
  have a3 := blkT_len h3
  unfold lightR
  simp only [List.length_append, List.length_cons]; omega
theorem lightL_R (n : Net) (x : LtV) : lightL n x = [108, 105, 103, 104, 116, 32] ++ lightR n x := rfl
def planTo (P : PlanV) (k : Nat) : List UInt8 := netX P.net ++ (P.lights.take k).flatMap fun x => lightL P.net x ++ [10]
theorem planTo_zero (P : PlanV) : planTo P 0 = netX P.net := by unfold planTo; simp
theorem planTo_end (P : PlanV) : planTo P P.lights.length = planX P := by unfold planTo planX; rw [List.take_length]
theorem planTo_succ {P : PlanV} {k : Nat} {x : LtV} (h : P.lights[k]? = some x) : planTo P (k + 1) = planTo P k ++ ([108, 105, 103, 104, 116, 32] ++ lightR P.net x ++ [10]) := by
  unfold planTo
  rw [List.take_add_one, h, List.flatMap_append, List.append_assoc, ← lightL_R]; simp
theorem netX_len {n : Net} (h : netB n = true) : (netX n).length ≤ 1000 := by
  have := netTo_len h n.fibers.length (Nat.le_refl _)
  have h14 := (netB_len h).2.2
  rw [netTo_end] at this
  omega
theorem planTo_len {P : PlanV} (h : planB P = true) : ∀ k, k ≤ P.lights.length → (planTo P k).length ≤ 1000 + 180 * k := by
  intro k
  induction k with
  | zero => intro _; rw [planTo_zero]; exact netX_len (planX_net h)
  | succ k ih =>
    intro hk
    have hx : P.lights[k]? = some (P.lights[k]'(by omega)) := List.getElem?_eq_getElem (by omega)
    have h1 := lightR_len (planX_net h) (planX_lights h _ (List.mem_of_getElem? hx))
    rw [planTo_succ hx]
    have := ih (by omega)
    simp only [List.length_append, List.length_cons, List.length_nil]
    omega
theorem planB_12 {P : PlanV} (h : planB P = true) : P.lights.length ≤ 12 := by unfold planB at h; simp only [Bool.and_eq_true, decide_eq_true_eq] at h; exact h.1.2
set_option maxHeartbeats 2000000 in
set_option maxRecDepth 20000 in
theorem l3Light_any (v : Value) (n : Net) (x : LL) (w : World) (h : NetIn w v n) (hI : Ints w x.r.q x.r.fibs) (hn : netB n = true) (hx : ltB n x.val = true) :
    Calls Tryz.prog 45 #[v, llV x] w fun e w' => e = .returned (.string (ba (lightR n x.val))) ∧ Fresh w w' := by
  obtain ⟨h1, h2, h3⟩ := ltB_is hx
  have HNI := Lib.hid h
  obtain ⟨id, ⟨s, q, cap, l⟩, bf, bc⟩ := x
  simp only at hI h1 h2 h3
  obtain ⟨N, F⟩ := n
  obtain ⟨qn, cn, pn, cp, rfl, hN, _, n1, n2, n3, n4, hsz⟩ := h
  obtain ⟨W2, hW2, hsz2, hf2, r1, r2⟩ := two_rows w [.slice qn N.length cn, .slice pn F.length cp] [.int .i64 id, .int .i64 s, .slice q l.length cap, .int .i64 bf, .int .i64 bc] 34 58
  obtain ⟨t, ht⟩ : ∃ t, t = ba (Lib.itoa id) := ⟨_, rfl⟩
  obtain ⟨u, hu⟩ : ∃ u, u = ba (routeX ⟨N, F⟩ (s, l)) := ⟨_, rfl⟩
  obtain ⟨b, hb⟩ : ∃ b, b = ba (blkT bf bc) := ⟨_, rfl⟩
  have hts : t.size ≤ 10 := by rw [ht, ba_size]; exact itoa_len9 (by omega) (by omega)
  have hus : u.size ≤ 144 := by rw [hu, ba_size]; exact routeX_len hn h2
  have hbs : b.size ≤ 15 := by rw [hb, ba_size]; exact blkT_len h3
  have HT : Hid (∀ W, Calls Tryz.prog 88 #[.int .i64 id] W fun e w' => e = .returned (.string t) ∧ Fresh W w') := fun W => by rw [ht]; exact l1Num_any id W (by omega) (by omega)
  have HU : Hid (∀ xa : After W2, Calls Tryz.prog 89 #[.agg #[.slice qn N.length cn, .slice pn F.length cp], .agg #[.int .i64 s, .slice q l.length cap]] xa.w' fun e w' => e = .returned (.string u) ∧ Fresh xa.w' w') := fun xa => by
    rw [hu]; exact l3Route_any _ ⟨N, F⟩ s q cap l xa.w' (HNI.out.keep (fstep hf2 xa.h)) (hI.keep (fstep hf2 xa.h)) hn h2
  have HB : Hid (∀ W, Calls Tryz.prog 90 #[.agg #[.int .i64 bf, .int .i64 bc]] W fun e w' => e = .returned (.string b) ∧ Fresh W w') := fun W => by rw [hb]; exact l3Block_any bf bc W (good9 h3)
  have c0 := fun xa : After W2 => akeep (r1.cell (i := 0) rfl) xa
  have c1 := fun xa : After W2 => akeep (r1.cell (i := 1) rfl) xa
  have d0 := fun xa : After W2 => akeep (r2.cell (i := 0) rfl) xa
  have d1 := fun xa : After W2 => akeep (r2.cell (i := 1) rfl) xa
  have d2 := fun xa : After W2 => akeep (r2.cell (i := 2) rfl) xa
  have d3 := fun xa : After W2 => akeep (r2.cell (i := 3) rfl) xa
  have d4 := fun xa : After W2 => akeep (r2.cell (i := 4) rfl) xa
  have HW2 := Lib.hid hW2
  have HF2 := Lib.hid hf2
  have HTE := Lib.hid ht
  have HUE := Lib.hid hu
  have HBE := Lib.hid hb
  clear hN hsz hI hW2 hsz2 hf2 r1 r2 ht hu hb hn hx h1 h2 h3
  go_enter Tryz.func45, Tryz.ntmps45
  go_upto_region 1 with fail
  rw [← HW2.out]
  refine wp_region_after (by kernel_rfl) (by kernel_rfl) ?_
  repeat (go_big_quiet_step ((first | (go_at_call 88; exact after_call (HT.out _)) | (go_at_call 89; exact after_call (HU.out _)) | (go_at_call 90; exact after_call (HB.out _)))))
  refine wpQuiet_nil ?_
  rintro _ ⟨xa, rfl⟩
  clear c0 c1 d0 d1 d2 d3 d4
  go_wp2
  go_ret
  refine ⟨?_, fstep HF2.out xa.h⟩
  show Ending.returned (.string ((((t ++ ba [32]) ++ u) ++ ba [32]) ++ b)) = _
  rw [HTE.out, HUE.out, HBE.out]
  refine congrArg (fun z => Ending.returned (.string z)) ?_
  apply bs_inj
  unfold lightR
  simp [bs_app]
set_option maxHeartbeats 4000000 in
set_option maxRecDepth 20000 in
theorem l3Plan_any (v : Value) (P : PlanV) (w : World) (h : PlIn w v P) (hp : planB P = true) : Calls Tryz.prog 17 #[v] w fun e w' => e = .returned (.string (ba (planX P))) ∧ Fresh w w' := by
  obtain ⟨N, L⟩ := P
  obtain ⟨q, m, c, p, k0, d, r, e0, l, rfl, hN, hL, hs, hv, he1, he2⟩ := h
  simp only at hN hv
  have hnn := planX_net hp
  simp only at hnn
  have h12 := planB_12 hp
  have hlen : L.length = l.length := by rw [hv]; simp
  simp only at h12
  have hl12 : l.length ≤ 12 := by omega
  obtain ⟨W1, hW1⟩ : ∃ W1, W1 = w.alloc (.cells #[.slice q m c, .slice p k0 d, .slice r l.length e0] 37) := ⟨_, rfl⟩
  have hf1 : Fresh w W1 := by rw [hW1]; exact fnew (frefl _) _
  have HR1 : Hid (RowAt W1 w.heap.size 37 [.slice q m c, .slice p k0 d, .slice r l.length e0]) := by rw [hW1]; exact RowAt.new _ _ _
  have HF1 := Lib.hid hf1
  have HW1 := Lib.hid hW1
  have HN := Lib.hid (hN.keep hf1)
  have HL := Lib.hid (hL.keep hf1)
  have HV := Lib.hid hv
  have HP := Lib.hid hp
  have HNN := Lib.hid hnn
  have HLE := Lib.hid hlen
  have HNT := Lib.hid (l3Network_any _ N W1 (hN.keep hf1) hnn)
  have c0 := HR1.out.cell (i := 0) rfl
  have c1 := HR1.out.cell (i := 1) rfl
  have c2 := HR1.out.cell (i := 2) rfl
  obtain ⟨t0, ht0⟩ : ∃ t0, t0 = ba (netX N) := ⟨_, rfl⟩
  rw [← ht0] at HNT
  have HT0 : Hid (t0 = ba (planTo ⟨N, L⟩ 0)) := by show _ = _; rw [ht0, planTo_zero]
  clear hN hL hs hv hp hnn hlen hf1 hW1 ht0 h12
  go_enter Tryz.func17, Tryz.ntmps17
  go_wp2_with fail
  rw [← HW1.out]
  refine (HNT.out).mono ?_
  rintro e w2 ⟨rfl, hf2⟩
  have HF2 := Lib.hid hf2
  clear hf2 c0 c1 c2 HNT
  go_wp2
  go_loopw [3, 4] (fun tv iv' wr => ∃ (k : Nat) (T : ByteArray), k ≤ l.length ∧ iv' = .int .i64 k ∧ tv = .string T ∧ Hid (T = ba (planTo ⟨N, L⟩ k)) ∧ Fresh W1 wr) (fun _ iv' _ => l.length - (intOf iv').toNat)
  case atStart => exact ⟨0, _, Nat.zero_le _, rfl, rfl, HT0.out, HF2.out⟩
  case round =>
    obtain ⟨k, T, hk, rfl, rfl, HT, hf⟩ := hrel
    have hTs := str_of HT.out (planTo_len HP.out k (by show k ≤ L.length; rw [HLE.out]; exact hk))
    have HFR := Lib.hid hf
    have z0 := (HR1.out.keep hf).cell (i := 0) rfl
    have z1 := (HR1.out.keep hf).cell (i := 1) rfl
    have z2 := (HR1.out.keep hf).cell (i := 2) rfl
    by_cases hlt : k < l.length
    · have hltz : (k : Int) < (l.length : Int) := by omega
      obtain ⟨b, off, x, hre, hx, hxm, hxI, a0, a1, a2, a3, a4⟩ := (HL.out.keep hf).at hlt
      subst hre
      have hLx : L[k]? = some x.val := by rw [HV.out, List.getElem?_map, hx]; rfl
      have hlb := planX_lights HP.out _ (List.mem_of_getElem? hLx)
      simp only at hlb
      obtain ⟨u, hu⟩ : ∃ u, u = ba (lightR N x.val) := ⟨_, rfl⟩
      have hus : u.size ≤ 170 := by rw [hu, ba_size]; exact lightR_len HNN.out hlb
      have HLI : Hid (∀ xa : After wr, Calls Tryz.prog 45 #[.agg #[.slice q m c, .slice p k0 d], .agg #[.int .i64 x.id, .int .i64 x.r.start, .slice x.r.q x.r.fibs.length x.r.cap, .int .i64 x.f, .int .i64 x.c]] xa.w' fun e w' => e = .returned (.string u) ∧ Fresh xa.w' w') := fun xa => by
        rw [hu]; exact l3Light_any _ N x xa.w' (HN.out.keep (fstep HFR.out xa.h)) (hxI.keep xa.h) HNN.out hlb
      have HTN : Hid (ba (planTo ⟨N, L⟩ (k + 1)) = ((T ++ ba [108, 105, 103, 104, 116, 32]) ++ u) ++ ba [10]) := by
        show _ = _
        rw [planTo_succ hLx, HT.out, hu]
        apply bs_inj
        simp [bs_app]
      have c0 := fun xa : After wr => akeep z0 xa
      have c1 := fun xa : After wr => akeep z1 xa
      have c2 := fun xa : After wr => akeep z2 xa
      have d0 := fun xa : After wr => akeep a0 xa
      have d1 := fun xa : After wr => akeep a1 xa
      have d2 := fun xa : After wr => akeep a2 xa
      have d3 := fun xa : After wr => akeep a3 xa
      have d4 := fun xa : After wr => akeep a4 xa
      clear hu hx hxm hxI hLx hlb hf
      go_upto_region 5 with fail
      clear z0 z1 z2 a0 a1 a2 a3 a4
      refine wp_region_after (by kernel_rfl) (by kernel_rfl) ?_
      repeat (go_big_quiet_step ((go_at_call 45; exact after_call (HLI.out _))))
      refine wpQuiet_nil ?_
      rintro _ ⟨xa, rfl⟩
      clear c0 c1 c2 d0 d1 d2 d3 d4
      go_wp2
      go_roundw
      case rel =>
        refine ⟨k + 1, _, by omega, by go_num, rfl, ?_, fstep HFR.out xa.h⟩
        show _ = ba (planTo ⟨N, L⟩ (k + 1))
        rw [HTN.out]
      case measure => simp [intOf]; omega
    · have hltz : ¬ (k : Int) < (l.length : Int) := by omega
      have hkn : k = l.length := by omega
      have HTE : Hid (T = ba (planX ⟨N, L⟩)) := by show _ = _; rw [HT.out, ← planTo_end, hkn, ← HLE.out]
      clear hkn hf
      go_wp2
      go_ret
      exact ⟨by rw [← HTE.out]; rfl, fstep HF1.out HFR.out⟩
/-- The text of a plan, and whether it is valid. -/
def OutFp (P : PlanV) (w : World) (e : Ending) (w' : World) : Prop := e = .returned (.tuple #[.string (if planB P = true then ba (planX P) else ⟨#[]⟩), .bool (planB P)]) ∧ Fresh w w'
theorem OutFp.yes {P : PlanV} {w w' : World} (h : planB P = true) (hf : Fresh w w') : OutFp P w (.returned (.tuple #[.string (ba (planX P)), .bool true])) w' := by unfold OutFp; rw [h]; exact ⟨rfl, hf⟩
theorem OutFp.no {P : PlanV} {w w' : World} (h : planB P = false) (hf : Fresh w w') : OutFp P w (.returned (.tuple #[.string ⟨#[]⟩, .bool false])) w' := by unfold OutFp; rw [h]; exact ⟨rfl, hf⟩
set_option maxHeartbeats 2000000 in
set_option maxRecDepth 20000 in
theorem specFormatPlan_any (v : Value) (P : PlanV) (w : World) (h : PlIn w v P) : Calls Tryz.prog 6 #[v] w (OutFp P w) := by
  have HPI := Lib.hid h
  obtain ⟨q, m, c, p, k0, d, r, i0, e0, rfl⟩ := h.shape
  obtain ⟨W1, hW1⟩ : ∃ W1, W1 = w.alloc (.cells #[.slice q m c, .slice p k0 d, .slice r i0 e0] 37) := ⟨_, rfl⟩
  have hf1 : Fresh w W1 := by rw [hW1]; exact fnew (frefl _) _
  have HR1 : Hid (RowAt W1 w.heap.size 37 [.slice q m c, .slice p k0 d, .slice r i0 e0]) := by rw [hW1]; exact RowAt.new _ _ _
  have HF1 := Lib.hid hf1
  have HW1 := Lib.hid hW1
  have HG := Lib.hid (l9Good_any _ P W1 (h.keep hf1))
  have c0 := HR1.out.cell (i := 0) rfl
  have c1 := HR1.out.cell (i := 1) rfl
  have c2 := HR1.out.cell (i := 2) rfl
  clear h hf1 hW1
  cases hp : planB P with
  | false =>
    rw [hp] at HG
    have HP := Lib.hid hp
    clear hp
    go_enter Tryz.func6, Tryz.ntmps6
    go_wp2_with fail
    rw [← HW1.out]
    refine (HG.out).mono ?_
    rintro e w2 ⟨rfl, hf2⟩
    go_wp2
    go_ret2
    exact OutFp.no HP.out (fstep HF1.out hf2)
  | true =>
    rw [hp] at HG
    have HP := Lib.hid hp
    clear hp
    go_enter Tryz.func6, Tryz.ntmps6
    go_wp2_with fail
    rw [← HW1.out]
    refine (HG.out).mono ?_
    rintro e w2 ⟨rfl, hf2⟩
    have d0 := fkeep hf2 c0
    have d1 := fkeep hf2 c1
    have d2 := fkeep hf2 c2
    go_wp2_with fail
    refine (l3Plan_any _ P _ (HPI.out.keep (fstep HF1.out hf2)) HP.out).mono ?_
    rintro e w3 ⟨rfl, hf3⟩
    go_wp2
    go_ret2
    exact OutFp.yes HP.out (fstep HF1.out (fstep hf2 hf3))
end Go.Proofs.YtjhaoonacjebpaaGreatDoor
