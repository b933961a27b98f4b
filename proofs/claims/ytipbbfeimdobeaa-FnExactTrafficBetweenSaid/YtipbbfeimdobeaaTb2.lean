/- Contracts: traffic between nodes, the reference's side. -/
import Derived.Test.YtipbbfeimdobeaaTb
namespace Go.Proofs.Ytipbbfeimdobeaa
open Go.RowKit Go.PlainAid

set_option maxHeartbeats 8000000 in
set_option maxRecDepth 100000 in
theorem specTrafficBetween_any (v : Value) (n : Net) (v2 : Value) (L : List Fib) (w : World) (h : NetIn w v n) (h2 : DmIn w v2 L) : Calls Try.prog 7 #[v, v2] w (OutTr w n L) := by
  obtain ⟨p2, c2, rfl, hL, hLn⟩ := h2
  have HN := Lib.hid h
  obtain ⟨q, c, p, d, rfl, _⟩ := h
  have HL := Lib.hid hL
  obtain ⟨nn, hnn⟩ : ∃ k, k = n.nodes.length := ⟨_, rfl⟩
  obtain ⟨nf, hnf⟩ : ∃ k, k = n.fibers.length := ⟨_, rfl⟩
  rw [← hnn, ← hnf] at HN ⊢
  obtain ⟨W1, hW1⟩ : ∃ W1, W1 = w.alloc (.cells #[.slice q nn c, .slice p nf d] 34) := ⟨_, rfl⟩
  have hsz1 : W1.heap.size = w.heap.size + 1 := by rw [hW1]; simp
  have HF1 : Hid (Fresh w W1) := by show Fresh w W1; rw [hW1]; exact fnew (frefl _) _
  obtain ⟨W2, hW2⟩ : ∃ W2, W2 = W1.alloc (.cells #[] 45) := ⟨_, rfl⟩
  have HF2 : Hid (Fresh W1 W2) := by show Fresh W1 W2; rw [hW2]; exact fnew (frefl _) _
  have HR1 : Hid (RowAt W2 w.heap.size 34 [.slice q nn c, .slice p nf d]) := by
    show RowAt W2 _ _ _
    have : RowAt W1 w.heap.size 34 [.slice q nn c, .slice p nf d] := by rw [hW1]; exact RowAt.new w _ _
    exact this.keep HF2.out
  have HR0 : Hid (RowAt W1 w.heap.size 34 [.slice q nn c, .slice p nf d]) := by show RowAt _ _ _ _; rw [hW1]; exact RowAt.new w _ _
  have HRE : Hid (RowAt W2 W1.heap.size 45 []) := by show RowAt W2 _ _ _; rw [hW2]; exact RowAt.new W1 _ _
  have HOWN : Hid (W2.ownsRow W1.heap.size 45 1 (.slice (some ⟨w.heap.size + 1, 0, none⟩) 0 0) 0 []) := by
    show World.ownsRow _ _ _ _ _ _ _
    rw [hW2, ← hsz1]; exact World.ownsRow_made W1 #[] 0 (Nat.le_refl _) (by simp [maxLen]) rfl
  have HW1 := Lib.hid hW1
  have HW2 := Lib.hid hW2
  have HC := Lib.hid (l10Demands_any (.agg #[.slice q nn c, .slice p nf d]) n p2 c2 L W2 (HN.out.keep (fstep HF1.out HF2.out)) (hL.keep (fstep HF1.out HF2.out)) hLn)
  obtain ⟨TF, hTF⟩ : ∃ T, T = trF n L := ⟨_, rfl⟩
  unfold OutTr
  rw [← hTF]
  have HTF := Lib.hid hTF
  have HNN := Lib.hid hnn
  clear hW1 hW2 hL hTF hnn hnf
  go_enter Try.func7, Try.ntmps7
  go_wp2_with fail
  rw [← HW1.out, ← HW2.out]
  clear HW1 HW2
  refine (HC.out).mono ?_
  rintro e w1 ⟨rfl, hb⟩
  have HF := Lib.hid (fstep HF1.out (fstep HF2.out hb))
  have HFW := Lib.hid (fstep HF2.out hb)
  have HR := Lib.hid (HR1.out.keep hb)
  have HREE := Lib.hid (HRE.out.keep hb)
  have HOW := Lib.hid (ownsRow_keep HOWN.out hb)
  clear hb HC
  cases hsv : demsB n L
  · have HE : Hid (TF = ([], false)) := by show _ = _; rw [HTF.out, trF_no hsv]
    clear hsv
    go_wp2
    go_ret2
    rw [HE.out]
    exact ⟨_, rfl, by rw [← hsz1]; exact ownSS_row HREE.out (by omega), HF.out⟩
  · have HE : Hid (TF = (trM n L n.nodes.length, true)) := by show _ = _; rw [HTF.out, trF_yes hsv]
    obtain ⟨h12, hnet, hall⟩ := dems_at hsv
    have hn8 := netB_8 hnet
    rw [← HNN.out] at hn8
    have HALL := Lib.hid hall
    have hmi := mkInts nn (by omega)
    clear hsv hnet hall
    go_wp2
    go_loopw [6, 7] (fun o i wr => ∃ (k : Nat) (l : List LI), k ≤ nn ∧ i = .int .i64 k ∧ wr.ownsRow W1.heap.size 45 1 o l.length (l.map liV) ∧ l.map LI.xs = trM n L k ∧ OwnS wr W1.heap.size l ∧ Dist l ∧ (∀ x ∈ l, ∀ g o, x.q = some ⟨g, o, none⟩ → g < wr.heap.size) ∧ Fresh W1 wr) (fun _ i _ => nn - (intOf i).toNat)
    case atStart => exact ⟨0, [], Nat.zero_le _, rfl, HOW.out, by simp [trM], ownS_nil _ _, dist_nil, (by intro x hx; cases hx), HFW.out⟩
    case round =>
      obtain ⟨k, l, hk, rfl, hown, hval, hos, hdi, hbl, hf⟩ := hrel
      obtain ⟨wo, rfl⟩ : ∃ wo : World, wo = wr := ⟨_, rfl⟩
      have HO := Lib.hid hown
      have HV := Lib.hid hval
      have HOS := Lib.hid hos
      have HDI := Lib.hid hdi
      have HBL := Lib.hid hbl
      have HFR := Lib.hid hf
      have hll : l.length = k := by
        have := congrArg List.length hval
        rw [List.length_map, trM_len] at this; exact this
      have HLL := Lib.hid hll
      have a0 := (HR0.out.keep hf).cell (i := 0) rfl
      clear hown hval hos hdi hbl hll
      by_cases hlt : k < nn
      · have hltz : (k : Int) < (nn : Int) := by omega
        have hsw := hf.size
        clear hf
        go_wp2
        clear a0
        go_loopw [9] (fun j wi => ∃ kk : Nat, kk ≤ L.length ∧ j = .int .i64 kk ∧ RowAt wi wo.heap.size 3 ((trRow L kk nn k).map iv) ∧ Fresh wo wi) (fun j _ => L.length - (intOf j).toNat)
        case atStart =>
          refine ⟨0, Nat.zero_le _, rfl, ?_, fnew (frefl _) _⟩
          rw [trRow_zero, List.map_replicate]
          have := RowAt.new wo 3 (List.replicate nn (iv 0))
          simpa using this
        case round =>
          obtain ⟨j, hj, rfl, hrw, hf⟩ := hrel
          have HRW := Lib.hid hrw
          have HFQ := Lib.hid hf
          clear hrw hf
          by_cases hlt2 : j < L.length
          · have hltz2 : (j : Int) < (L.length : Int) := by omega
            obtain ⟨b1, o1, x, y, z, u, hp2, hx, hc0, hc1, hc2, hc3⟩ := (HL.out.keep (fstep HF1.out (fstep HFR.out HFQ.out))).at hlt2
            subst hp2
            obtain ⟨a, b, ha, hb, ham, hbm, hab, hz1, hz2⟩ := dem_at (HALL.out _ (List.mem_of_getElem? hx))
            simp only at ha hb hz1 hz2
            subst ha hb
            rw [← HNN.out] at ham hbm
            have HXX := Lib.hid hx
            have hamz : (a : Int) < (nn : Int) := by omega
            have hbmz : (b : Int) < (nn : Int) := by omega
            clear hx
            by_cases hak : a = k
            · have hka : ((a : Int) == (k : Int)) = true := by simp [hak]
              have hkb : ((b : Int) == (k : Int)) = false := by simp; omega
              have hTb := tr_bound HALL.out j k b
              obtain ⟨T, hT⟩ : ∃ T, T = tr L j k b := ⟨_, rfl⟩
              rw [← hT] at hTb
              have hcT := row_iv HRW.out hbm
              rw [← hT] at hcT
              have HT := Lib.hid hT
              have i0 := fun xa : After wr => akeep hc0 xa
              have i1 := fun xa : After wr => akeep hc1 xa
              have i2 := fun xa : After wr => akeep hc2 xa
              have i3 := fun xa : After wr => akeep hcT xa
              have i5 := fun xa : After wr => (HRW.out.keep xa.h).frozen b
              have HAK := Lib.hid hak
              clear hT hak
              go_wp2
              refine wp_region_after_tail 21 (by kernel_rfl) (by kernel_rfl) ?_
              simp only [List.take_succ_cons, List.take_zero, List.drop_succ_cons, List.drop_zero]
              repeat (go_big_quiet_step (fail))
              refine wpQuiet_nil ?_
              intro xa
              obtain ⟨W5, hW5⟩ : ∃ W5, W5 = xa.w'.setCell ⟨wo.heap.size, b, none⟩ (.int .i64 (T + z)) := ⟨_, rfl⟩
              have hF5 : Fresh wo W5 := by rw [hW5]; exact fset (fstep HFQ.out xa.h) (Nat.le_refl _) _
              have hA5 : RowAt W5 wo.heap.size 3 (((trRow L j nn k).set b (T + z)).map iv) := by rw [hW5]; exact row_set (HRW.out.keep xa.h)
              obtain ⟨b1', o1', x', y', z', u', hp', hx', hd0, hd1, hd2, hd3⟩ := (HL.out.keep (fstep HF1.out (fstep HFR.out hF5))).at hlt2
              cases hp'
              rw [HXX.out] at hx'
              cases hx'
              have hcT0 := (HRW.out.keep xa.h).cell (show ((trRow L j nn k).map iv)[b]? = some (iv (tr L j k b)) by rw [List.getElem?_map, trRow_get hbm]; rfl)
              have hfz0 := (HRW.out.keep xa.h).frozen b
              have HW5 := Lib.hid hW5
              rw [hW5] at hd0 hd1 hd2
              have HF5 := Lib.hid hF5
              have HA5 := Lib.hid hA5
              clear hF5 hA5 hW5 i0 i1 i2 i3 i5 hd3
              go_wp2
              rw [← HW5.out]
              go_roundw
              case rel =>
                refine ⟨j + 1, by omega, by go_num, ?_, HF5.out⟩
                have := HA5.out
                rw [HT.out, trRow_from HXX.out rfl rfl HAK.out hab hbm] at this
                exact this
              case measure => simp [intOf]; omega
            · have hka : ((a : Int) == (k : Int)) = false := by simp; omega
              by_cases hbk : b = k
              · have hkb : ((b : Int) == (k : Int)) = true := by simp [hbk]
                have hTb := tr_bound HALL.out j k a
                obtain ⟨T, hT⟩ : ∃ T, T = tr L j k a := ⟨_, rfl⟩
                rw [← hT] at hTb
                have hcT := row_iv HRW.out ham
                rw [← hT] at hcT
                have HT := Lib.hid hT
                have i0 := fun xa : After wr => akeep hc0 xa
                have i1 := fun xa : After wr => akeep hc1 xa
                have i2 := fun xa : After wr => akeep hc2 xa
                have i3 := fun xa : After wr => akeep hcT xa
                have i5 := fun xa : After wr => (HRW.out.keep xa.h).frozen a
                have HBK := Lib.hid hbk
                clear hT hbk
                go_wp2
                refine wp_region_after_tail 21 (by kernel_rfl) (by kernel_rfl) ?_
                simp only [List.take_succ_cons, List.take_zero, List.drop_succ_cons, List.drop_zero]
                repeat (go_big_quiet_step (fail))
                refine wpQuiet_nil ?_
                intro xa
                have hcT0 := (HRW.out.keep xa.h).cell (show ((trRow L j nn k).map iv)[a]? = some (iv (tr L j k a)) by rw [List.getElem?_map, trRow_get ham]; rfl)
                have hfz0 := (HRW.out.keep xa.h).frozen a
                clear i0 i1 i2 i3 i5
                go_wp2
                go_roundw
                case rel =>
                  refine ⟨j + 1, by omega, by go_num, ?_, fset (fstep HFQ.out xa.h) (Nat.le_refl _) _⟩
                  have := row_set (x := T + z) (j := a) (HRW.out.keep xa.h)
                  rw [HT.out, trRow_to HXX.out rfl rfl HBK.out hab ham] at this
                  rw [HT.out]; exact this
                case measure => simp [intOf]; omega
              · have hkb : ((b : Int) == (k : Int)) = false := by simp; omega
                have HY := Lib.hid (trRow_none (n := nn) HXX.out rfl rfl hak hbk)
                clear hak hbk
                go_wp2
                go_roundw
                case rel => exact ⟨j + 1, by omega, by go_num, by rw [HY.out]; exact HRW.out, HFQ.out⟩
                case measure => simp [intOf]; omega
          · have hjn : j = L.length := by omega
            have hltz2 : ¬ (j : Int) < (L.length : Int) := by omega
            subst hjn
            have hownO := ownsRow_keep HO.out HFQ.out
            have HFA := Lib.hid (fstep HFR.out HFQ.out)
            have hl1 := HLL.out
            have hlr := HRW.out.lt
            go_wp2_with (at_builtin; refine wpList_app_g Try.underlying29 infoIs rfl (by decide) (by decide) W1 _ _ l.length (l.map liV) [Value.slice (some ⟨wo.heap.size, 0, none⟩) nn nn] _ rfl (by intro u hu; simp at hu; subst hu; rfl) rfl _ _ rfl rfl hownO rfl rfl (by omega) HFA.out ?_; intro v' w3 hown3 hf3 hkp)
            have HO3 := Lib.hid hown3
            have HF3 := Lib.hid hf3
            have HK3 := Lib.hid hkp
            clear hown3 hf3 hkp hownO hl1
            go_wp2
            go_roundw
            case rel =>
              have hrow3 := HK3.out _ _ _ HRW.out (by decide)
              have hlt3 := hrow3.lt
              have e : [Value.slice (some ⟨wo.heap.size, 0, none⟩) nn nn] = List.map liV [⟨some ⟨wo.heap.size, 0, none⟩, nn, trRow L L.length nn k⟩] := by simp [liV, trRow_len]
              refine ⟨k + 1, l ++ [⟨some ⟨wo.heap.size, 0, none⟩, nn, trRow L L.length nn k⟩], by omega, by go_num, ?_, ?_, ((HOS.out.keep HFQ.out).grown HK3.out (by decide)).snoc (Or.inr ⟨wo.heap.size, [], rfl, hsw, by rw [List.append_nil]; exact hrow3⟩), HDI.out.snoc ?_, ?_, HF3.out⟩
              · have := HO3.out
                rw [e] at this
                rw [List.length_append, List.map_append]
                exact this
              · rw [List.map_append, HV.out, trM_succ, ← HNN.out]; rfl
              · intro y hy g o h o' e1 e2
                cases e1
                have := HBL.out y hy h o' e2
                omega
              · intro y hy g o e1
                rcases List.mem_append.1 hy with hy | hy
                · have := HBL.out y hy g o e1; omega
                · rw [List.mem_singleton.1 hy] at e1
                  cases e1; exact hlt3
            case measure => simp [intOf]; omega
      · have hkn : k = nn := by omega
        have hltz : ¬ (k : Int) < (nn : Int) := by omega
        subst hkn
        obtain ⟨pr, cr, rfl, ho⟩ := own_of_row HO.out
        have HOO := Lib.hid ho
        clear ho hf
        go_wp2
        go_ret2
        rw [HE.out]
        exact ⟨_, rfl, ⟨pr, cr, l, rfl, by rw [HV.out, HNN.out], HOO.out.mono (by omega), HOS.out.mono (by omega), HDI.out⟩, fstep HF1.out HFR.out⟩
end Go.Proofs.Ytipbbfeimdobeaa
