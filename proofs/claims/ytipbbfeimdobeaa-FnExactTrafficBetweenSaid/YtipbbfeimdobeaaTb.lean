/- Contracts: traffic between nodes, both sides. -/
import Derived.Test.YtipbbfeimdobeaaTp
import Derived.Test.YtipbbfeimdobeaaSs
import Derived.Test.YtipbbfeimdobeaaKDm
namespace Go.Proofs.Ytipbbfeimdobeaa
open Go.RowKit Go.PlainAid

def OutTr (w : World) (n : Net) (L : List Fib) (e : Ending) (w' : World) : Prop := ∃ v', e = .returned (.tuple #[v', .bool (trF n L).2]) ∧ OwnSS w' w.heap.size v' (trF n L).1 ∧ Fresh w w'
theorem ownS_nil (w : World) (base : Nat) : OwnS w base [] := fun x hx => by cases hx
theorem dist_nil : Dist [] := by intro i j x y _ hx; simp at hx
theorem ownSS_nil (w : World) (base : Nat) : OwnSS w base (.slice none 0 0) [] := ⟨none, 0, [], rfl, rfl, Or.inl ⟨rfl, rfl⟩, ownS_nil _ _, dist_nil⟩
theorem ownSS_row {w : World} {base g : Nat} (hr : RowAt w g 45 []) (hg : base ≤ g) : OwnSS w base (.slice (some ⟨g, 0, none⟩) 0 0) [] := ⟨_, 0, [], rfl, rfl, Or.inr ⟨g, [], rfl, hg, hr⟩, ownS_nil _ _, dist_nil⟩
theorem tr_done {n : Net} {L : List Fib} {w : World} {base gO nn : Nat} {cs : List Value} {G : Nat → Nat} (hnn : nn = n.nodes.length) (ho : RowAt w gO 45 cs) (hg : base ≤ gO) (hl : cs.length = nn) (hc : ∀ i, i < nn → cs[i]? = some (.slice (some ⟨G i, 0, none⟩) nn nn)) (hG : ∀ i, i < nn → gO < G i)
    (hd : ∀ i j, i < nn → j < nn → i ≠ j → G i ≠ G j) (hr : ∀ i, i < nn → RowAt w (G i) 3 ((trRow L L.length nn i).map iv)) : OwnSS w base (.slice (some ⟨gO, 0, none⟩) nn nn) (trM n L n.nodes.length) := by
  subst hnn
  obtain ⟨l, hle⟩ : ∃ l : List LI, l = (List.range n.nodes.length).map fun i => ⟨some ⟨G i, 0, none⟩, n.nodes.length, trRow L L.length n.nodes.length i⟩ := ⟨_, rfl⟩
  have hll : l.length = n.nodes.length := by rw [hle]; simp
  have hget : ∀ i x, l[i]? = some x → i < n.nodes.length ∧ x = ⟨some ⟨G i, 0, none⟩, n.nodes.length, trRow L L.length n.nodes.length i⟩ := by
    intro i x hx
    have hi : i < n.nodes.length := by
      rcases Nat.lt_or_ge i l.length with h' | h'
      · omega
      · rw [List.getElem?_eq_none h'] at hx; cases hx
    rw [hle, List.getElem?_map, List.getElem?_range hi] at hx
    exact ⟨hi, (Option.some.inj hx).symm⟩
  refine ⟨some ⟨gO, 0, none⟩, n.nodes.length, l, by rw [hll], ?_, Or.inr ⟨gO, [], rfl, hg, ?_⟩, ?_, ?_⟩
  · rw [hle, List.map_map]; rfl
  · rw [List.append_nil]
    have e : l.map liV = cs := by
      apply List.ext_getElem?
      intro i
      rcases Nat.lt_or_ge i n.nodes.length with hi | hi
      · rw [hc i hi, hle, List.map_map, List.getElem?_map, List.getElem?_range hi]
        simp [liV, trRow_len]
      · rw [List.getElem?_eq_none (by simp; omega), List.getElem?_eq_none (by omega)]
    rw [e]; exact ho
  · intro x hx
    obtain ⟨i, hi⟩ := List.mem_iff_getElem?.1 hx
    obtain ⟨h1, rfl⟩ := hget i x hi
    exact Or.inr ⟨G i, [], rfl, by have := hG i h1; omega, by rw [List.append_nil]; exact hr i h1⟩
  · intro i j x y hij hx hy g o h o' e1 e2
    obtain ⟨h1, rfl⟩ := hget i x hx
    obtain ⟨h2, rfl⟩ := hget j y hy
    cases e1; cases e2
    exact hd i j h1 h2 hij
theorem row_iv {L : List Fib} {w : World} {g k nn i j : Nat} (h : RowAt w g 3 ((trRow L k nn i).map iv)) (hj : j < nn) : w.cell? ⟨g, j, none⟩ = some (.int .i64 (tr L k i j)) := h.cell (by rw [List.getElem?_map, trRow_get hj]; rfl)
theorem row_set {L : List Fib} {w : World} {g k nn i j : Nat} {x : Int} (h : RowAt w g 3 ((trRow L k nn i).map iv)) : RowAt (w.setCell ⟨g, j, none⟩ (.int .i64 x)) g 3 (((trRow L k nn i).set j x).map iv) := by rw [List.map_set]; exact h.set j _
set_option maxHeartbeats 8000000 in
set_option maxRecDepth 100000 in
theorem implTrafficBetween_any (v : Value) (n : Net) (v2 : Value) (L : List Fib) (w : World) (h : NetIn w v n) (h2 : DmIn w v2 L) : Calls Try.prog 10 #[v, v2] w (OutTr w n L) := by
  obtain ⟨p2, c2, rfl, hL, hLn⟩ := h2
  have HN := Lib.hid h
  obtain ⟨q, c, p, d, rfl, _⟩ := h
  have HL := Lib.hid hL
  have HX := Lib.hid hLn
  obtain ⟨nn, hnn⟩ : ∃ k, k = n.nodes.length := ⟨_, rfl⟩
  obtain ⟨nf, hnf⟩ : ∃ k, k = n.fibers.length := ⟨_, rfl⟩
  rw [← hnn, ← hnf] at HN ⊢
  obtain ⟨W1, hW1⟩ : ∃ W1, W1 = w.alloc (.cells #[.slice q nn c, .slice p nf d] 34) := ⟨_, rfl⟩
  have hsz1 : W1.heap.size = w.heap.size + 1 := by rw [hW1]; simp
  have HF1 : Hid (Fresh w W1) := by show Fresh w W1; rw [hW1]; exact fnew (frefl _) _
  have HR1 : Hid (RowAt W1 w.heap.size 34 [.slice q nn c, .slice p nf d]) := by show RowAt W1 _ _ _; rw [hW1]; exact RowAt.new w _ _
  have HW1 := Lib.hid hW1
  have HC := Lib.hid (implIsValidDemands_any (.agg #[.slice q nn c, .slice p nf d]) n p2 c2 L W1 (HN.out.keep HF1.out) (hL.keep HF1.out) hLn)
  obtain ⟨TF, hTF⟩ : ∃ T, T = trF n L := ⟨_, rfl⟩
  unfold OutTr
  rw [← hTF]
  have HTF := Lib.hid hTF
  have HNN := Lib.hid hnn
  clear hW1 hL hTF hnn hnf
  go_enter Try.func10, Try.ntmps10
  go_wp2_with fail
  rw [← HW1.out]
  clear HW1
  refine (HC.out).mono ?_
  rintro e w1 ⟨rfl, hb⟩
  have HF := Lib.hid (fstep HF1.out hb)
  have HR := Lib.hid (HR1.out.keep hb)
  have hszw := hb.size
  have HB1 := Lib.hid hb
  clear hb HC
  cases hsv : demsB n L
  · have HE : Hid (TF = ([], false)) := by show _ = _; rw [HTF.out, trF_no hsv]
    clear hsv
    go_wp2
    go_ret2
    rw [HE.out]
    exact ⟨_, rfl, ownSS_nil _ _, HF.out⟩
  · have HE : Hid (TF = (trM n L n.nodes.length, true)) := by show _ = _; rw [HTF.out, trF_yes hsv]
    obtain ⟨h12, hnet, hall⟩ := dems_at hsv
    have hn8 := netB_8 hnet
    rw [← HNN.out] at hn8
    have HALL := Lib.hid hall
    have hmk := mkRow (z := [Value.slice none 0 0]) Try.underlying29 infoIs rfl (by decide) nn (by omega) (by omega)
    have hmi := mkInts nn (by omega)
    have a0 := HR.out.cell (i := 0) rfl
    clear hsv hnet hall
    go_wp2
    clear a0 hmk
    go_loopw [20] (fun i wr => ∃ (k : Nat) (cs : List Value) (G : Nat → Nat), k ≤ nn ∧ i = .int .i64 k ∧ RowAt wr w1.heap.size 45 cs ∧ cs.length = nn ∧ (∀ i, i < k → cs[i]? = some (.slice (some ⟨G i, 0, none⟩) nn nn)) ∧ (∀ i, i < k → w1.heap.size < G i) ∧ (∀ i j, i < k → j < k → i ≠ j → G i ≠ G j) ∧ (∀ i, i < k → RowAt wr (G i) 3 ((trRow L 0 nn i).map iv)) ∧ Fresh w1 wr) (fun i _ => nn - (intOf i).toNat)
    case atStart => exact ⟨0, zs [Value.slice none 0 0] nn, fun _ => 0, Nat.zero_le _, rfl, RowAt.new w1 _ _, by rw [zs_len]; simp, fun i hi => by omega, fun i hi => by omega, fun i j hi => by omega, fun i hi => by omega, fnew (frefl _) _⟩
    case round =>
      obtain ⟨k, cs, G, hk, rfl, hro, hcl, hcs, hgo, hdi, hrw, hf⟩ := hrel
      have HRO := Lib.hid hro
      have HCS := Lib.hid hcs
      have HGO := Lib.hid hgo
      have HDI := Lib.hid hdi
      have HRW := Lib.hid hrw
      have HFR := Lib.hid hf
      clear hcs hgo hdi hrw
      by_cases hlt : k < nn
      · have hltz : (k : Int) < (nn : Int) := by omega
        have a0 := (HR.out.keep hf).cell (i := 0) rfl
        have hc0 := fun o : Obj => (hro.alloc o).cell (show cs[k]? = some cs[k] from List.getElem?_eq_getElem (by omega))
        have hf0 := fun o : Obj => (hro.alloc o).frozen k
        have hlt0 := hro.lt
        clear hro hf
        go_wp2
        go_roundw
        case rel =>
          have hne : ∀ i, i < k → G i ≠ wr.heap.size := fun i hi => by have := (HRW.out i hi).lt; omega
          refine ⟨k + 1, cs.set k (.slice (some ⟨wr.heap.size, 0, none⟩) nn nn), fun i => if i = k then wr.heap.size else G i, by omega, by go_num, (HRO.out.set k _).alloc _, by simpa using hcl, fun i hi => ?_, fun i hi => ?_, fun i j hi hj hij => ?_, fun i hi => ?_, fnew (fset HFR.out (Nat.le_refl _) _) _⟩
          · dsimp only
            rw [List.getElem?_set]
            by_cases e : k = i
            · subst e; rw [if_pos rfl, if_pos (by omega), if_pos rfl]
            · have e' : ¬ i = k := fun h => e h.symm
              rw [if_neg e, if_neg e']; exact HCS.out i (by omega)
          · dsimp only
            by_cases e : i = k
            · rw [if_pos e]; omega
            · rw [if_neg e]; exact HGO.out i (by omega)
          · dsimp only
            by_cases e : i = k
            · by_cases e2 : j = k
              · omega
              · rw [if_pos e, if_neg e2]; exact (hne j (by omega)).symm
            · by_cases e2 : j = k
              · rw [if_neg e, if_pos e2]; exact hne i (by omega)
              · rw [if_neg e, if_neg e2]; exact HDI.out i j (by omega) (by omega) hij
          · dsimp only
            by_cases e : i = k
            · rw [if_pos e, trRow_zero, List.map_replicate]
              have := RowAt.new (wr.setCell ⟨w1.heap.size, k, none⟩ (.slice (some ⟨wr.heap.size, 0, none⟩) nn nn)) 3 (List.replicate nn (iv 0))
              simpa using this
            · rw [if_neg e]
              exact ((HRW.out i (by omega)).setOther (by have := HGO.out i (by omega); omega) _).alloc _
        case measure => simp [intOf]; omega
      · have hkn : k = nn := by omega
        have hltz : ¬ (k : Int) < (nn : Int) := by omega
        subst hkn
        clear hro hf
        go_wp2
        go_loopw [33] (fun i wq => ∃ kk : Nat, kk ≤ L.length ∧ i = .int .i64 kk ∧ RowAt wq w1.heap.size 45 cs ∧ (∀ i, i < k → RowAt wq (G i) 3 ((trRow L kk k i).map iv)) ∧ Fresh w1 wq) (fun i _ => L.length - (intOf i).toNat)
        case atStart => exact ⟨0, Nat.zero_le _, rfl, HRO.out, HRW.out, HFR.out⟩
        case round =>
          obtain ⟨j, hj, rfl, hro, hrw, hf⟩ := hrel
          have HRO2 := Lib.hid hro
          have HRW2 := Lib.hid hrw
          have HFQ := Lib.hid hf
          clear hro hrw
          by_cases hlt2 : j < L.length
          · have hltz2 : (j : Int) < (L.length : Int) := by omega
            obtain ⟨b1, o1, x, y, z, u, hp2, hx, hc0, hc1, hc2, hc3⟩ := (HL.out.keep (fstep HF.out hf)).at hlt2
            subst hp2
            obtain ⟨a, b, ha, hb, ham, hbm, hab, hz1, hz2⟩ := dem_at (HALL.out _ (List.mem_of_getElem? hx))
            simp only at ha hb hz1 hz2
            subst ha hb
            rw [← HNN.out] at ham hbm
            have HXX := Lib.hid hx
            have hT1b := tr_bound HALL.out j a b
            have hT2b := tr_bound HALL.out j b a
            obtain ⟨W3, hW3⟩ : ∃ W3, W3 = wr.alloc (.cells #[.int .i64 (a : Int), .int .i64 (b : Int), .int .i64 z, .int .i64 u] 66) := ⟨_, rfl⟩
            have hf3 : Fresh wr W3 := by rw [hW3]; exact fnew (frefl _) _
            have hbx : RowAt W3 wr.heap.size 66 [.int .i64 (a : Int), .int .i64 (b : Int), .int .i64 z, .int .i64 u] := by rw [hW3]; exact RowAt.new wr _ _
            have hxr := HRO2.out.keep hf3
            have hA := (HRW2.out a ham).keep hf3
            have hB := (HRW2.out b hbm).keep hf3
            obtain ⟨T1, hT1⟩ : ∃ T, T = tr L j a b := ⟨_, rfl⟩
            obtain ⟨T2, hT2⟩ : ∃ T, T = tr L j b a := ⟨_, rfl⟩
            rw [← hT1] at hT1b
            rw [← hT2] at hT2b
            have hcA := row_iv hA hbm
            rw [← hT1] at hcA
            have hcO := hxr.cell (HCS.out a ham)
            have i0 := fun xa : After W3 => akeep (hbx.cell (i := 0) rfl) xa
            have i1 := fun xa : After W3 => akeep (hbx.cell (i := 1) rfl) xa
            have i2 := fun xa : After W3 => akeep (hbx.cell (i := 2) rfl) xa
            have i3 := fun xa : After W3 => akeep hcO xa
            have i4 := fun xa : After W3 => akeep hcA xa
            have i5 := fun xa : After W3 => (hA.keep xa.h).frozen b
            have hamz : (a : Int) < (k : Int) := by omega
            have hbmz : (b : Int) < (k : Int) := by omega
            have HBX := Lib.hid hbx
            have HXR := Lib.hid hxr
            have HA := Lib.hid hA
            have HB := Lib.hid hB
            have HF3 := Lib.hid hf3
            have HW3 := Lib.hid hW3
            have HT1 := Lib.hid hT1
            have HT2 := Lib.hid hT2
            have hga := HGO.out a ham
            have hgb := HGO.out b hbm
            have hgab := HDI.out a b ham hbm hab
            have hlb := HBX.out.lt
            have hszr : wr.heap.size < W3.heap.size := by rw [hW3]; simp
            have hgal := (HRW2.out a ham).lt
            have hgbl := (HRW2.out b hbm).lt
            have hgol := HRO2.out.lt
            clear hx hbx hxr hA hB hcA hcO hf3 hW3 hT1 hT2 hf
            go_wp2
            rw [← HW3.out]
            refine wp_region_after_tail 13 (by kernel_rfl) (by kernel_rfl) ?_
            simp only [List.take_succ_cons, List.take_zero, List.drop_succ_cons, List.drop_zero]
            repeat (go_big_quiet_step (fail))
            refine wpQuiet_nil ?_
            intro xa
            obtain ⟨W5, hW5⟩ : ∃ W5, W5 = xa.w'.setCell ⟨G a, b, none⟩ (.int .i64 (T1 + z)) := ⟨_, rfl⟩
            have hbx5 : RowAt W5 wr.heap.size 66 [.int .i64 (a : Int), .int .i64 (b : Int), .int .i64 z, .int .i64 u] := by rw [hW5]; exact (HBX.out.keep xa.h).setOther (by omega) _
            have hxr5 : RowAt W5 w1.heap.size 45 cs := by rw [hW5]; exact (HXR.out.keep xa.h).setOther (by omega) _
            have hB5 : RowAt W5 (G b) 3 ((trRow L j k b).map iv) := by rw [hW5]; exact (HB.out.keep xa.h).setOther (fun e => hgab e.symm) _
            have hA5 : RowAt W5 (G a) 3 (((trRow L j k a).set b (T1 + z)).map iv) := by rw [hW5]; exact row_set (HA.out.keep xa.h)
            have hF5 : Fresh w1 W5 := by rw [hW5]; exact fset (fstep HFQ.out (fstep HF3.out xa.h)) (by omega) _
            have HO5 : Hid (∀ i, i < k → i ≠ a → RowAt W5 (G i) 3 ((trRow L j k i).map iv)) := by
              intro i hi hia
              rw [hW5]
              exact (((HRW2.out i hi).keep HF3.out).keep xa.h).setOther (HDI.out i a hi ham hia) _
            have hcB := row_iv hB5 ham
            rw [← HT2.out] at hcB
            have hcO := hxr5.cell (HCS.out b hbm)
            clear i0 i1 i2 i3 i4 i5
            have i5 := (HA.out.keep xa.h).frozen b
            have HW5 := Lib.hid hW5
            have i0 := fun xa : After W5 => akeep (hbx5.cell (i := 0) rfl) xa
            have i1 := fun xa : After W5 => akeep (hbx5.cell (i := 1) rfl) xa
            have i2 := fun xa : After W5 => akeep (hbx5.cell (i := 2) rfl) xa
            have i3 := fun xa : After W5 => akeep hcO xa
            have i4 := fun xa : After W5 => akeep hcB xa
            have i6 := fun xa : After W5 => (hB5.keep xa.h).frozen a
            have hcA0 := (HA.out.keep xa.h).cell (show ((trRow L j k a).map iv)[b]? = some (iv (tr L j a b)) by rw [List.getElem?_map, trRow_get hbm]; rfl)
            have HXR5 := Lib.hid hxr5
            have HB5 := Lib.hid hB5
            have HA5 := Lib.hid hA5
            have HF5 := Lib.hid hF5
            clear hbx5 hxr5 hB5 hA5 hF5 hcB hcO hW5
            go_wp2
            rw [← HW5.out]
            refine wp_region_after_tail 13 (by kernel_rfl) (by kernel_rfl) ?_
            simp only [List.take_succ_cons, List.take_zero, List.drop_succ_cons, List.drop_zero]
            repeat (go_big_quiet_step (fail))
            refine wpQuiet_nil ?_
            intro xb
            have hfz := (HB5.out.keep xb.h).frozen a
            have hcB0 := (HB5.out.keep xb.h).cell (show ((trRow L j k b).map iv)[a]? = some (iv (tr L j b a)) by rw [List.getElem?_map, trRow_get ham]; rfl)
            clear i0 i1 i2 i3 i4 i5 i6 hcA0
            go_wp2
            go_roundw
            case rel =>
              refine ⟨j + 1, by omega, by go_num, (HXR5.out.keep xb.h).setOther (by omega) _, fun i hi => ?_, fset (fstep HF5.out xb.h) (by omega) _⟩
              by_cases eb : i = b
              · subst eb
                have := row_set (x := T2 + z) (j := a) (HB5.out.keep xb.h)
                rw [HT2.out, trRow_to HXX.out rfl rfl rfl hab ham] at this
                rw [HT2.out]; exact this
              · by_cases ea : i = a
                · subst ea
                  have := (HA5.out.keep xb.h).setOther (b := G b) (o := i) hgab (.int .i64 (T2 + z))
                  rw [HT1.out, trRow_from HXX.out rfl rfl rfl hab hbm] at this
                  exact this
                · rw [trRow_none HXX.out rfl rfl (fun e => ea e.symm) (fun e => eb e.symm)]
                  exact ((HO5.out i hi ea).keep xb.h).setOther (HDI.out i b hi hbm eb) _
            case measure => simp [intOf]; omega
          · have hjn : j = L.length := by omega
            have hltz2 : ¬ (j : Int) < (L.length : Int) := by omega
            subst hjn
            clear hf
            go_wp2
            go_ret2
            rw [HE.out]
            exact ⟨_, rfl, tr_done HNN.out HRO2.out (by omega) hcl HCS.out HGO.out HDI.out HRW2.out, fstep HF.out HFQ.out⟩
end Go.Proofs.Ytipbbfeimdobeaa
