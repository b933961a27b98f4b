/- Contracts: the text of a plan, the program's side. -/
import Derived.Test.YtjhaoonacjebpaaGreatDoorPx
namespace Go.Proofs.YtjhaoonacjebpaaGreatDoor
open Go.RowKit Go.PlainAid

set_option maxHeartbeats 4000000 in
set_option maxRecDepth 20000 in
theorem implFormatPlan_any (v : Value) (P : PlanV) (w : World) (h : PlIn w v P) (hT : TabE w) : Calls Tryz.prog 8 #[v] w (OutFp P w) := by
  have HPI := Lib.hid h
  obtain ⟨N, L⟩ := P
  obtain ⟨q, m, c, p, k0, d, r, e0, l, rfl, hN, hL, hs, hv, he1, he2⟩ := h
  simp only at hN hv
  obtain ⟨W1, hW1⟩ : ∃ W1, W1 = w.alloc (.cells #[.slice q m c, .slice p k0 d, .slice r l.length e0] 37) := ⟨_, rfl⟩
  have hf1 : Fresh w W1 := by rw [hW1]; exact fnew (frefl _) _
  have HR1 : Hid (RowAt W1 w.heap.size 37 [.slice q m c, .slice p k0 d, .slice r l.length e0]) := by rw [hW1]; exact RowAt.new _ _ _
  have HF1 := Lib.hid hf1
  have HW1 := Lib.hid hW1
  have HG := Lib.hid (implIsValidPlan_any _ ⟨N, L⟩ W1 (HPI.out.keep hf1))
  have HT1 := Lib.hid (hT.keep hf1)
  have c0 := HR1.out.cell (i := 0) rfl
  have c1 := HR1.out.cell (i := 1) rfl
  have c2 := HR1.out.cell (i := 2) rfl
  cases hp : planB ⟨N, L⟩ with
  | false =>
    rw [hp] at HG
    have HP := Lib.hid hp
    clear hp hN hL hs hv hf1 hW1 hT
    go_enter Tryz.func8, Tryz.ntmps8
    go_wp2_with fail
    rw [← HW1.out]
    refine (HG.out).mono ?_
    rintro e w2 ⟨rfl, hf2⟩
    go_wp2
    go_ret2
    exact OutFp.no HP.out (fstep HF1.out hf2)
  | true =>
    rw [hp] at HG
    have hnn := planX_net hp
    simp only at hnn
    have h12 := planB_12 hp
    have hlen : L.length = l.length := by rw [hv]; simp
    simp only at h12
    have hl12 : l.length ≤ 12 := by omega
    have HN := Lib.hid (hN.keep hf1)
    have HL := Lib.hid (hL.keep hf1)
    have HV := Lib.hid hv
    have HP := Lib.hid hp
    have HNN := Lib.hid hnn
    have HLE := Lib.hid hlen
    obtain ⟨t0, ht0⟩ : ∃ t0, t0 = ba (netX N) := ⟨_, rfl⟩
    have HNT : Hid (∀ W, Fresh W1 W → Calls Tryz.prog 21 #[.agg #[.slice q m c, .slice p k0 d]] W fun e w' => e = .returned (.tuple #[.string t0, .bool true]) ∧ Fresh W w') := fun W hW => by
      have := formatNetwork_any _ N W (HN.out.keep hW) (HT1.out.keep hW)
      unfold OutFn at this
      rw [hnn, if_pos rfl, ← ht0] at this
      exact this
    have HT0 : Hid (t0 = ba (planTo ⟨N, L⟩ 0)) := by show _ = _; rw [ht0, planTo_zero]
    clear hN hL hs hv hp hnn hlen hf1 hW1 ht0 h12 hT
    go_enter Tryz.func8, Tryz.ntmps8
    go_wp2_with fail
    rw [← HW1.out]
    refine (HG.out).mono ?_
    rintro e w2 ⟨rfl, hf2⟩
    have d0 := fkeep hf2 c0
    have d1 := fkeep hf2 c1
    have d2 := fkeep hf2 c2
    have HF2 := Lib.hid hf2
    clear hf2 c0 c1 c2
    go_wp2_with fail
    refine (HNT.out _ HF2.out).mono ?_
    rintro e w3 ⟨rfl, hf3⟩
    have c0 := fkeep hf3 d0
    have c1 := fkeep hf3 d1
    have c2 := fkeep hf3 d2
    have HF3 := Lib.hid (fstep HF2.out hf3)
    clear hf3 d0 d1 d2
    go_wp2
    clear c0 c1 c2
    go_loopw [4, 20] (fun tv iv' wr => ∃ (k : Nat) (T : ByteArray), k ≤ l.length ∧ iv' = .int .i64 k ∧ tv = .string T ∧ Hid (T = ba (planTo ⟨N, L⟩ k)) ∧ Fresh W1 wr) (fun _ iv' _ => l.length - (intOf iv').toNat)
    case atStart => exact ⟨0, _, Nat.zero_le _, rfl, rfl, HT0.out, HF3.out⟩
    case round =>
      obtain ⟨k, T, hk, rfl, rfl, HT, hf⟩ := hrel
      have hTs := str_of HT.out (planTo_len HP.out k (by show k ≤ L.length; rw [HLE.out]; exact hk))
      have HFR := Lib.hid hf
      by_cases hlt : k < l.length
      · have hltz : (k : Int) < (l.length : Int) := by omega
        obtain ⟨b, off, x, hre, hx, hxm, hxI, a0, a1, a2, a3, a4⟩ := (HL.out.keep hf).at hlt
        subst hre
        have hLx : L[k]? = some x.val := by rw [HV.out, List.getElem?_map, hx]; rfl
        have hlb := planX_lights HP.out _ (List.mem_of_getElem? hLx)
        simp only at hlb
        obtain ⟨l1, l2, l3⟩ := ltB_is hlb
        obtain ⟨id, ⟨s, qq, cap, fl⟩, bf, bc⟩ := x
        simp only at hxI a0 a1 a2 a3 a4 l1 l2 l3
        obtain ⟨t, ht⟩ : ∃ t, t = ba (Lib.itoa id) := ⟨_, rfl⟩
        obtain ⟨u, hu⟩ : ∃ u, u = ba (routeX N (s, fl)) := ⟨_, rfl⟩
        obtain ⟨bk, hb⟩ : ∃ bk, bk = ba (blkT bf bc) := ⟨_, rfl⟩
        have hts : t.size ≤ 10 := by rw [ht, ba_size]; exact itoa_len9 (by omega) (by omega)
        have hus : u.size ≤ 144 := by rw [hu, ba_size]; exact routeX_len HNN.out l2
        have hbs : bk.size ≤ 15 := by rw [hb, ba_size]; exact blkT_len l3
        obtain ⟨W6, hW6⟩ : ∃ W, W = wr.alloc (.cells #[.int .i64 id, .int .i64 s, .slice qq fl.length cap, .int .i64 bf, .int .i64 bc] 58) := ⟨_, rfl⟩
        obtain ⟨bF, hbF⟩ : ∃ b, b = wr.heap.size := ⟨_, rfl⟩
        have hf6 : Fresh wr W6 := by rw [hW6]; exact fnew (frefl _) _
        have HR6 : Hid (RowAt W6 bF 58 [.int .i64 id, .int .i64 s, .slice qq fl.length cap, .int .i64 bf, .int .i64 bc]) := by rw [hW6, hbF]; exact RowAt.new _ _ _
        have HF6 := Lib.hid (fstep hf hf6)
        have HA : Hid (∀ xa : After W6, Calls Tryz.prog 22 #[.int .i64 id] xa.w' fun e w' => e = .returned (.string t) ∧ Fresh xa.w' w') := fun xa => by rw [ht]; exact itoa_any id _ (HT1.out.keep (fstep HF6.out xa.h)) (by omega) (by omega)
        have HU : Hid (∀ xa : After W6, Calls Tryz.prog 23 #[.agg #[.slice q m c, .slice p k0 d], .agg #[.int .i64 s, .slice qq fl.length cap]] xa.w' fun e w' => e = .returned (.string u) ∧ Fresh xa.w' w') := fun xa => by
          rw [hu]; exact routeText_any _ N s qq cap fl xa.w' (HN.out.keep (fstep HF6.out xa.h)) (hxI.keep (fstep hf6 xa.h)) (HT1.out.keep (fstep HF6.out xa.h)) HNN.out l2
        have HB : Hid (∀ xa : After W6, Calls Tryz.prog 24 #[.agg #[.int .i64 bf, .int .i64 bc]] xa.w' fun e w' => e = .returned (.string bk) ∧ Fresh xa.w' w') := fun xa => by rw [hb]; exact blockText_any bf bc _ (HT1.out.keep (fstep HF6.out xa.h)) (good9 l3)
        have HTN : Hid (ba (planTo ⟨N, L⟩ (k + 1)) = T ++ ((((((ba [108, 105, 103, 104, 116, 32] ++ t) ++ ba [32]) ++ u) ++ ba [32]) ++ bk) ++ ba [10])) := by
          show _ = _
          rw [planTo_succ hLx, HT.out, ht, hu, hb]
          apply bs_inj
          unfold lightR
          simp [bs_app]
        have g0 := fun xa : After W6 => akeep (fkeep HF6.out (HR1.out.cell (i := 0) rfl)) xa
        have g1 := fun xa : After W6 => akeep (fkeep HF6.out (HR1.out.cell (i := 1) rfl)) xa
        have d0 := fun xa : After W6 => akeep (HR6.out.cell (i := 0) rfl) xa
        have d1 := fun xa : After W6 => akeep (HR6.out.cell (i := 1) rfl) xa
        have d2 := fun xa : After W6 => akeep (HR6.out.cell (i := 2) rfl) xa
        have d3 := fun xa : After W6 => akeep (HR6.out.cell (i := 3) rfl) xa
        have d4 := fun xa : After W6 => akeep (HR6.out.cell (i := 4) rfl) xa
        have HW6 := Lib.hid hW6
        have HBF := Lib.hid hbF
        clear hu hb ht hx hxm hxI hLx hlb hf l1 l2 l3 hW6 hbF hf6
        go_upto_region 7 with fail
        rw [← HW6.out, ← HBF.out]
        clear a0 a1 a2 a3 a4
        refine wp_region_after (by kernel_rfl) (by kernel_rfl) ?_
        repeat (go_big_quiet_step ((first | (go_at_call 22; exact after_call (HA.out _)) | (go_at_call 23; exact after_call (HU.out _)) | (go_at_call 24; exact after_call (HB.out _)))))
        refine wpQuiet_nil ?_
        rintro _ ⟨xa, rfl⟩
        clear g0 g1 d0 d1 d2 d3 d4
        go_wp2
        go_roundw
        case rel =>
          refine ⟨k + 1, _, by omega, by go_num, rfl, ?_, fstep HF6.out xa.h⟩
          show _ = ba (planTo ⟨N, L⟩ (k + 1))
          rw [HTN.out]
        case measure => simp [intOf]; omega
      · have hltz : ¬ (k : Int) < (l.length : Int) := by omega
        have hkn : k = l.length := by omega
        have HTE : Hid (T = ba (planX ⟨N, L⟩)) := by show _ = _; rw [HT.out, ← planTo_end, hkn, ← HLE.out]
        clear hkn hf
        go_wp2
        go_ret2
        rw [HTE.out]
        exact OutFp.yes HP.out (fstep HF1.out HFR.out)
end Go.Proofs.YtjhaoonacjebpaaGreatDoor
