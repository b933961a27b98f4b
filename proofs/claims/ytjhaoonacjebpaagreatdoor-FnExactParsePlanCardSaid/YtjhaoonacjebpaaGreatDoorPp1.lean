/- Contracts: a plan's text is read, the program's side. (Printed by gen_pp1.py.) -/
import Derived.Test.YtjhaoonacjebpaaGreatDoorPr2
namespace Go.Proofs.YtjhaoonacjebpaaGreatDoor
open Go.RowKit Go.PlainAid

theorem cut_false {s sep hd tl : List UInt8} (h : Lib.cut s sep = (hd, tl, false)) : hd = s := by
  unfold Lib.cut at h
  split at h
  · cases h
  · cases h; rfl
/-- A row of strings as a block: its place and its cells. -/
theorem strs_rowR {w : World} {base : Nat} {v : Value} {P : List (List UInt8)} (h : w.ownsRow base 9 1 v P.length (strs P)) (h0 : 0 < P.length) : ∃ g c cl, v = .slice (some ⟨g, 0, none⟩) P.length c ∧ RowAt w g 9 cl ∧ ∀ (k : Nat) (x : List UInt8), P[k]? = some x → cl[k]? = some (.string (ba x)) := by
  obtain ⟨h1, h2 | ⟨g, cap, cur, hv, hb, hh, hnc, hcm, hcs, htk⟩⟩ := h
  · omega
  · refine ⟨g, cap, cur.toList, hv, by unfold RowAt; exact hh, fun k x hk => ?_⟩
    have hlt := (List.getElem?_eq_some_iff.1 hk).1
    have : (cur.toList.take (P.length * 1))[k]? = some (.string (ba x)) := by rw [htk]; simp [strs, hk]
    rw [List.getElem?_take_of_lt (by omega)] at this
    exact this
theorem row_ne {w : World} {g h : Nat} {t u : TypeId} {xs ys : List Value} (h1 : RowAt w g t xs) (h2 : RowAt w h u ys) (hn : t ≠ u) : g ≠ h := by
  intro e
  subst e
  unfold RowAt at h1 h2
  rw [h1] at h2
  simp only [Option.some.injEq, Obj.cells.injEq] at h2
  exact hn h2.2.1
theorem DistL.nil : DistL [] := by intro i j x y _ hx; simp at hx
set_option maxHeartbeats 16000000 in
set_option maxRecDepth 100000 in
theorem implParsePlan_any (s : ByteArray) (w : World) (hs : s.size ≤ 1048576) (hT : TabE w) (hS : SynE w) (hM : MaxE w) : Calls Tryz.prog 11 #[.string s] w fun e w' => ∃ v' r0 r1, e = .returned (.tuple #[v', .bool r1]) ∧ ParSaid s r0 r1 ∧ PlOwn w' w.heap.size v' r0 ∧ Fresh w w' := by
  obtain ⟨bR, hbR⟩ : ∃ b, b = w.heap.size := ⟨_, rfl⟩
  obtain ⟨W1, hW1⟩ : ∃ W, W = w.alloc (.cells #[.slice none 0 0, .slice none 0 0, .slice none 0 0] 37) := ⟨_, rfl⟩
  have hf1 : Fresh w W1 := by rw [hW1]; exact fnew (frefl _) _
  have HR : Hid (RowAt W1 bR 37 [.slice none 0 0, .slice none 0 0, .slice none 0 0]) := by show RowAt _ _ _ _; rw [hW1, hbR]; exact RowAt.new _ _ _
  have hlo : w.heap.size ≤ bR := by omega
  obtain ⟨m, hm⟩ := hM.keep hf1
  obtain ⟨x, hx⟩ : ∃ x, x = ba (Lib.cut (bs s) sepL).1 := ⟨_, rfl⟩
  obtain ⟨y, hy⟩ : ∃ y, y = ba (Lib.cut (bs s) sepL).2.1 := ⟨_, rfl⟩
  obtain ⟨z, hz⟩ : ∃ z, z = (Lib.cut (bs s) sepL).2.2 := ⟨_, rfl⟩
  have hxs : x.size ≤ 1048576 := by rw [hx, ba_size]; have := (cut_len (bs s) sepL).1; rw [bs_len] at this; omega
  have hys : y.size ≤ 1048576 := by rw [hy, ba_size]; have := (cut_len (bs s) sepL).2; rw [bs_len] at this; omega
  have HCU : Hid (Lib.cut (bs s) sepL = (bs x, bs y, z)) := by show _ = _; rw [hx, hy, hz, bs_ba, bs_ba]
  have HCUT : Hid (Calls Tryz.prog 30 #[.string s, .string ⟨#[10, 108, 105, 103, 104, 116, 32]⟩] W1 fun e w' => e = .returned (.tuple #[.string x, .string y, .bool z]) ∧ ∃ n, w' = W1.drewN n) := by
    rw [hx, hy, hz]; exact Tryz.strings_Cut s ⟨#[10, 108, 105, 103, 104, 116, 32]⟩ m W1 (by omega) hm
  have HT := Lib.hid hT
  have HS := Lib.hid hS
  have HM := Lib.hid hM
  have HF := Lib.hid hf1
  have HW1 := Lib.hid hW1
  have HBR := Lib.hid hbR
  have HSZ := Lib.hid hs
  clear hW1 hf1 hT hS hM hbR hs hm hx hy hz
  go_enter Tryz.func11, Tryz.ntmps11
  go_wp2_with fail
  rw [← HW1.out, ← HBR.out]
  refine (HCUT.out).mono ?_
  clear HCUT HW1
  rintro e w2 ⟨rfl, nd, hw2⟩
  have hf2 : Fresh W1 w2 := by rw [hw2]; exact fdrewN (frefl _) _
  replace HF := Lib.hid (fstep HF.out hf2)
  replace HR := Lib.hid (HR.out.keep hf2)
  clear hw2 hf2 m nd
  cases z with
  | false =>
    obtain ⟨T, hT4⟩ : ∃ T, T = x := ⟨_, rfl⟩
    have hTs : T.size ≤ 2097152 := by rw [hT4]; omega
    have HIN : Hid (∀ Q, IsPlan (bs s) Q → IsN (bs T) Q.net ∧ Q.lights = []) := fun Q hQ => by
      have h := pp_none HCU.out hQ
      rw [hT4, cut_false HCU.out]
      exact ⟨h.2, h.1⟩
    have HT4 := Lib.hid hT4
    clear hT4
    go_upto_region 4 with fail
    rw [← HT4.out]
    have HPN := Lib.hid (parseNetwork_any T w2 hTs (HT.out.keep HF.out) (HS.out.keep HF.out) (HM.out.keep HF.out))
    go_wp2_with fail
    refine (HPN.out).mono ?_
    clear HPN
    rintro e w3 (⟨hno, rfl, hf3⟩ | ⟨M, q, c, p, d, hin, huq, rfl, hoq, hop, hc1, hc2, hf3⟩)
    · have HNO : Hid (∀ Q, ¬ IsPlan (bs s) Q) := fun Q hQ => hno _ (HIN.out Q hQ).1
      have hf4 := fun os => fnew hf3 os
      obtain ⟨W4, hW4⟩ : ∃ W, W = w3.alloc (.cells #[.slice none 0 0, .slice none 0 0] 34) := ⟨_, rfl⟩
      have hf4 : Fresh w2 W4 := by rw [hW4]; exact fnew hf3 _
      have HF4 := Lib.hid (fstep HF.out hf4)
      have HR4 := Lib.hid (HR.out.keep hf4)
      have HW4 := Lib.hid hW4
      clear hf4 hf3 hW4 hno
      go_upto_region 5 with fail
      rw [← HW4.out]
      have x0 := HR4.out.cell (i := 0) rfl
      have u0 := HR4.out.frozen 0
      have x1 := HR4.out.cell (i := 1) rfl
      have u1 := HR4.out.frozen 1
      have x2 := HR4.out.cell (i := 2) rfl
      have u2 := HR4.out.frozen 2
      have hfin := (((HR4.out.set 0 (.slice none 0 0)).set 1 (.slice none 0 0)).set 2 (.slice none 0 0))
      have k0 := hfin.cell (i := 0) rfl
      have k1 := hfin.cell (i := 1) rfl
      have k2 := hfin.cell (i := 2) rfl
      have HFF := Lib.hid (fset (fset (fset HF4.out hlo (o := 0) (.slice none 0 0)) hlo (o := 1) (.slice none 0 0)) hlo (o := 2) (.slice none 0 0))
      clear hfin
      go_wp2
      refine bodyPost_ret (v := .tuple #[.agg #[.slice none 0 0, .slice none 0 0, .slice none 0 0], .bool false]) (by simp [results, Tryz.results11, go_sem, k0, k1, k2]) rfl ?_
      exact ⟨_, zP, false, rfl, Or.inr ⟨rfl, rfl, HNO.out⟩, zP_own _ _, HFF.out⟩
    · skip
      obtain ⟨b4, hb4⟩ : ∃ b, b = w3.heap.size := ⟨_, rfl⟩
      obtain ⟨W4, hW4⟩ : ∃ W, W = w3.alloc (.cells #[.slice q M.nodes.length c, .slice p M.fibers.length d] 34) := ⟨_, rfl⟩
      have hf4 : Fresh w3 W4 := by rw [hW4]; exact fnew (frefl _) _
      have H4 : Hid (RowAt W4 b4 34 [.slice q M.nodes.length c, .slice p M.fibers.length d]) := by show RowAt _ _ _ _; rw [hW4, hb4]; exact RowAt.new _ _ _
      have HF4 := Lib.hid (fstep HF.out (fstep hf3 hf4))
      have HR4 := Lib.hid (HR.out.keep (fstep hf3 hf4))
      have HOQ := Lib.hid ((hoq.mono HF.out.size).keep hf4)
      have HOP := Lib.hid ((hop.mono HF.out.size).keep hf4)
      have HIS := Lib.hid hin
      have HUQ := Lib.hid huq
      have HW4 := Lib.hid hW4
      have HB4 := Lib.hid hb4
      have hsm := netB_small hin.1
      have hR4 : bR < W4.heap.size := HR4.out.lt
      clear hf4 hf3 hW4 hb4 hoq hop hin huq
      by_cases h4k : 4000 < s.size
      · have hz : (4000 : Int) < (s.size : Int) := by omega
        have HNO : Hid (∀ Q, ¬ IsPlan (bs s) Q) := fun Q hQ => by have := hQ.2.2; rw [bs_len] at this; omega
        go_upto_region 5 with fail
        rw [← HW4.out, ← HB4.out]
        have x0 := HR4.out.cell (i := 0) rfl
        have u0 := HR4.out.frozen 0
        have x1 := HR4.out.cell (i := 1) rfl
        have u1 := HR4.out.frozen 1
        have x2 := HR4.out.cell (i := 2) rfl
        have u2 := HR4.out.frozen 2
        have hfin := (((HR4.out.set 0 (.slice none 0 0)).set 1 (.slice none 0 0)).set 2 (.slice none 0 0))
        have k0 := hfin.cell (i := 0) rfl
        have k1 := hfin.cell (i := 1) rfl
        have k2 := hfin.cell (i := 2) rfl
        have HFF := Lib.hid (fset (fset (fset HF4.out hlo (o := 0) (.slice none 0 0)) hlo (o := 1) (.slice none 0 0)) hlo (o := 2) (.slice none 0 0))
        clear hfin
        go_wp2
        refine bodyPost_ret (v := .tuple #[.agg #[.slice none 0 0, .slice none 0 0, .slice none 0 0], .bool false]) (by simp [results, Tryz.results11, go_sem, k0, k1, k2]) rfl ?_
        exact ⟨_, zP, false, rfl, Or.inr ⟨rfl, rfl, HNO.out⟩, zP_own _ _, HFF.out⟩
      · have hz : ¬ (4000 : Int) < (s.size : Int) := by omega
        have n0 := H4.out.cell (i := 0) rfl
        have n1 := H4.out.cell (i := 1) rfl
        obtain ⟨bP, hbP⟩ : ∃ b, b = W4.heap.size := ⟨_, rfl⟩
        have hloP : W4.heap.size ≤ bP := by omega
        obtain ⟨W7, hW7⟩ : ∃ W, W = W4.alloc (.cells #[.slice q M.nodes.length c, .slice p M.fibers.length d, .slice none 0 0] 37) := ⟨_, rfl⟩
        have hf7 : Fresh W4 W7 := by rw [hW7]; exact fnew (frefl _) _
        have HRP : Hid (RowAt W7 bP 37 [.slice q M.nodes.length c, .slice p M.fibers.length d, .slice none 0 0]) := by show RowAt _ _ _ _; rw [hW7, hbP]; exact RowAt.new _ _ _
        have HFB := Lib.hid hf7
        have HW7 := Lib.hid hW7
        have HBP := Lib.hid hbP
        clear h4k hf7 hW7 hbP
        go_upto_region 7 with fail
        rw [← HW4.out, ← HB4.out]
        go_upto_region 8 with fail
        rw [← HW7.out, ← HBP.out]
        clear HW4 HB4 HW7 HBP n0 n1
        have HALL : Hid (∀ Q, IsPlan (bs s) Q → Q = ⟨M, ([] : List LL).map LL.val⟩) := fun Q hQ => by
          obtain ⟨h1, h2⟩ := HIN.out Q hQ
          obtain ⟨Qn, Ql⟩ := Q
          simp only at h1 h2
          rw [HUQ.out _ h1, h2]; rfl
        have HPI : Hid (PlIn W7 (.agg #[.slice q M.nodes.length c, .slice p M.fibers.length d, .slice none 0 0]) (⟨M, ([] : List LL).map LL.val⟩ : PlanV)) := ⟨q, _, c, p, _, d, none, 0, ([] : List LL), rfl, ⟨_, _, _, _, rfl, (HOQ.out.keep HFB.out).cells, (HOP.out.keep HFB.out).cells, hsm.1.1, hsm.2, hc1, hc2, hsm.1.2⟩, ⟨Own.cells (base := W4.heap.size) (t := 58) (Or.inl ⟨rfl, rfl⟩), fun x hx => (show Own W7 W4.heap.size 3 x.r.q (x.r.fibs.map iv) from (fun x hx => by cases hx) x hx).ints⟩, ⟨(by simp), (fun x hx => by cases hx)⟩, rfl, (Nat.le_refl _), (by omega)⟩
        have HFP := Lib.hid (implFormatPlan_any _ _ W7 HPI.out (HT.out.keep (fstep HF4.out HFB.out)))
        unfold OutFp at HFP
        have p0 := HRP.out.cell (i := 0) rfl
        have p1 := HRP.out.cell (i := 1) rfl
        have p2 := HRP.out.cell (i := 2) rfl
        have HR9 := Lib.hid (HR4.out.keep HFB.out)
        cases hb : planB (⟨M, ([] : List LL).map LL.val⟩ : PlanV) with
        | false =>
          rw [hb, if_neg (by simp)] at HFP
          have HNO : Hid (∀ Q, ¬ IsPlan (bs s) Q) := fun Q hQ => by
            have h2 := hQ.1
            rw [HALL.out Q hQ, hb] at h2
            cases h2
          clear hb
          go_wp2_with fail
          refine (HFP.out).mono ?_
          clear HFP
          rintro e wf ⟨rfl, hff⟩
          have HRF := Lib.hid (HR9.out.keep hff)
          have HFF0 := Lib.hid (fstep (fstep HF4.out HFB.out) hff)
          clear hff p0 p1 p2
          have x0 := HRF.out.cell (i := 0) rfl
          have u0 := HRF.out.frozen 0
          have x1 := HRF.out.cell (i := 1) rfl
          have u1 := HRF.out.frozen 1
          have x2 := HRF.out.cell (i := 2) rfl
          have u2 := HRF.out.frozen 2
          have hfin := (((HRF.out.set 0 (.slice none 0 0)).set 1 (.slice none 0 0)).set 2 (.slice none 0 0))
          have k0 := hfin.cell (i := 0) rfl
          have k1 := hfin.cell (i := 1) rfl
          have k2 := hfin.cell (i := 2) rfl
          have HFF := Lib.hid (fset (fset (fset HFF0.out hlo (o := 0) (.slice none 0 0)) hlo (o := 1) (.slice none 0 0)) hlo (o := 2) (.slice none 0 0))
          clear hfin
          go_wp2
          refine bodyPost_ret (v := .tuple #[.agg #[.slice none 0 0, .slice none 0 0, .slice none 0 0], .bool false]) (by simp [results, Tryz.results11, go_sem, k0, k1, k2]) rfl ?_
          exact ⟨_, zP, false, rfl, Or.inr ⟨rfl, rfl, HNO.out⟩, zP_own _ _, HFF.out⟩
        | true =>
          rw [hb, if_pos rfl] at HFP
          have HB := Lib.hid hb
          clear hb
          obtain ⟨t, ht⟩ : ∃ t, t = ba (planX (⟨M, ([] : List LL).map LL.val⟩ : PlanV)) := ⟨_, rfl⟩
          rw [← ht] at HFP
          by_cases he : t = s
          · have hd := streq he
            have HIP : Hid (IsPlan (bs s) (⟨M, ([] : List LL).map LL.val⟩ : PlanV)) := ⟨HB.out, by rw [← he, ht, bs_ba], by rw [bs_len]; omega⟩
            clear he ht
            go_wp2_with fail
            refine (HFP.out).mono ?_
            clear HFP
            rintro e wf ⟨rfl, hff⟩
            have HRX := Lib.hid (HR9.out.keep hff)
            have HFB9 := Lib.hid (fstep HFB.out hff)
            have HFF9 := Lib.hid hff
            replace p0 := fkeep hff p0
            replace p1 := fkeep hff p1
            replace p2 := fkeep hff p2
            have x0 := HRX.out.cell (i := 0) rfl
            have u0 := HRX.out.frozen 0
            have x1 := HRX.out.cell (i := 1) rfl
            have u1 := HRX.out.frozen 1
            have x2 := HRX.out.cell (i := 2) rfl
            have u2 := HRX.out.frozen 2
            have hfin := (((HRX.out.set 0 (.slice q M.nodes.length c)).set 1 (.slice p M.fibers.length d)).set 2 (.slice none 0 0))
            have k0 := hfin.cell (i := 0) rfl
            have k1 := hfin.cell (i := 1) rfl
            have k2 := hfin.cell (i := 2) rfl
            have HFF := Lib.hid (fset (fset (fset (fstep HF4.out HFB9.out) hlo (o := 0) (.slice q M.nodes.length c)) hlo (o := 1) (.slice p M.fibers.length d)) hlo (o := 2) (.slice none 0 0))
            clear hfin hff
            go_wp2
            refine bodyPost_ret (v := .tuple #[.agg #[.slice q M.nodes.length c, .slice p M.fibers.length d, .slice none 0 0], .bool true]) (by simp [results, Tryz.results11, go_sem, k0, k1, k2]) rfl ?_
            have hS : ∀ {t : TypeId} {pp : Option Addr} {xs : List Value}, Own wf w.heap.size t pp xs → t ≠ 37 → Own (((wf.setCell ⟨bR, 0, none⟩ (.slice q M.nodes.length c)).setCell ⟨bR, 1, none⟩ (.slice p M.fibers.length d)).setCell ⟨bR, 2, none⟩ (.slice none 0 0)) w.heap.size t pp xs := fun h n => ((h.setO HRX.out n _ _).setO (HRX.out.set 0 _) n _ _).setO ((HRX.out.set 0 _).set 1 _) n _ _
            exact ⟨_, (⟨M, ([] : List LL).map LL.val⟩ : PlanV), true, rfl, Or.inl ⟨rfl, HIP.out, HALL.out⟩, ⟨q, c, p, d, none, 0, ([] : List LL), rfl, hS (HOQ.out.keep HFB9.out) (by decide), hS (HOP.out.keep HFB9.out) (by decide), hS ((show Own W7 W4.heap.size 58 none (([] : List LL).flatMap llC) from (Or.inl ⟨rfl, rfl⟩)).keep HFF9.out |>.mono HF4.out.size) (by decide), fun x hx => hS (((show Own W7 W4.heap.size 3 x.r.q (x.r.fibs.map iv) from (fun x hx => by cases hx) x hx).keep HFF9.out).mono HF4.out.size) (by decide), DistL.nil, rfl, hc1, hc2, (Nat.le_refl _), (by omega)⟩, HFF.out⟩
          · have hd := strne he
            have HNO : Hid (∀ Q, ¬ IsPlan (bs s) Q) := fun Q hQ => by
              have h2 := hQ.2.1
              rw [HALL.out Q hQ] at h2
              exact he (by rw [ht, h2, ba_bs])
            clear he ht
            go_wp2_with fail
            refine (HFP.out).mono ?_
            clear HFP
            rintro e wf ⟨rfl, hff⟩
            have HRF := Lib.hid (HR9.out.keep hff)
            have HFF0 := Lib.hid (fstep (fstep HF4.out HFB.out) hff)
            clear hff p0 p1 p2
            have x0 := HRF.out.cell (i := 0) rfl
            have u0 := HRF.out.frozen 0
            have x1 := HRF.out.cell (i := 1) rfl
            have u1 := HRF.out.frozen 1
            have x2 := HRF.out.cell (i := 2) rfl
            have u2 := HRF.out.frozen 2
            have hfin := (((HRF.out.set 0 (.slice none 0 0)).set 1 (.slice none 0 0)).set 2 (.slice none 0 0))
            have k0 := hfin.cell (i := 0) rfl
            have k1 := hfin.cell (i := 1) rfl
            have k2 := hfin.cell (i := 2) rfl
            have HFF := Lib.hid (fset (fset (fset HFF0.out hlo (o := 0) (.slice none 0 0)) hlo (o := 1) (.slice none 0 0)) hlo (o := 2) (.slice none 0 0))
            clear hfin
            go_wp2
            refine bodyPost_ret (v := .tuple #[.agg #[.slice none 0 0, .slice none 0 0, .slice none 0 0], .bool false]) (by simp [results, Tryz.results11, go_sem, k0, k1, k2]) rfl ?_
            exact ⟨_, zP, false, rfl, Or.inr ⟨rfl, rfl, HNO.out⟩, zP_own _ _, HFF.out⟩
  | true =>
    obtain ⟨T, hT4⟩ : ∃ T, T = x ++ ba [10] := ⟨_, rfl⟩
    obtain ⟨U, hU4⟩ : ∃ U, U = ba [108, 105, 103, 104, 116, 32] ++ y := ⟨_, rfl⟩
    have hTs : T.size ≤ 2097152 := by rw [hT4, ByteArray.size_append, show (ba [10]).size = 1 from rfl]; omega
    have hUs : U.size ≤ 2097152 := by rw [hU4, ByteArray.size_append, show (ba [108, 105, 103, 104, 116, 32]).size = 6 from rfl]; omega
    have HIN : Hid (∀ Q, IsPlan (bs s) Q → IsN (bs T) Q.net ∧ linesOk (bs U) = true ∧ splitC 10 (bs U).dropLast = Q.lights.map (lightL Q.net)) := fun Q hQ => by
      have h := pp_some HCU.out hQ
      rw [hT4, hU4, bs_app, bs_app, bs_ba, bs_ba]
      exact h
    have HT4 := Lib.hid hT4
    have HU4 := Lib.hid hU4
    clear hT4 hU4
    go_upto_region 4 with fail
    rw [show (x ++ (⟨#[10]⟩ : ByteArray)) = T from HT4.out.symm, show ((⟨#[108, 105, 103, 104, 116, 32]⟩ : ByteArray) ++ y) = U from HU4.out.symm]
    have HPN := Lib.hid (parseNetwork_any T w2 hTs (HT.out.keep HF.out) (HS.out.keep HF.out) (HM.out.keep HF.out))
    go_wp2_with fail
    refine (HPN.out).mono ?_
    clear HPN
    rintro e w3 (⟨hno, rfl, hf3⟩ | ⟨M, q, c, p, d, hin, huq, rfl, hoq, hop, hc1, hc2, hf3⟩)
    · have HNO : Hid (∀ Q, ¬ IsPlan (bs s) Q) := fun Q hQ => hno _ (HIN.out Q hQ).1
      have hf4 := fun os => fnew hf3 os
      obtain ⟨W4, hW4⟩ : ∃ W, W = w3.alloc (.cells #[.slice none 0 0, .slice none 0 0] 34) := ⟨_, rfl⟩
      have hf4 : Fresh w2 W4 := by rw [hW4]; exact fnew hf3 _
      have HF4 := Lib.hid (fstep HF.out hf4)
      have HR4 := Lib.hid (HR.out.keep hf4)
      have HW4 := Lib.hid hW4
      clear hf4 hf3 hW4 hno
      go_upto_region 5 with fail
      rw [← HW4.out]
      have x0 := HR4.out.cell (i := 0) rfl
      have u0 := HR4.out.frozen 0
      have x1 := HR4.out.cell (i := 1) rfl
      have u1 := HR4.out.frozen 1
      have x2 := HR4.out.cell (i := 2) rfl
      have u2 := HR4.out.frozen 2
      have hfin := (((HR4.out.set 0 (.slice none 0 0)).set 1 (.slice none 0 0)).set 2 (.slice none 0 0))
      have k0 := hfin.cell (i := 0) rfl
      have k1 := hfin.cell (i := 1) rfl
      have k2 := hfin.cell (i := 2) rfl
      have HFF := Lib.hid (fset (fset (fset HF4.out hlo (o := 0) (.slice none 0 0)) hlo (o := 1) (.slice none 0 0)) hlo (o := 2) (.slice none 0 0))
      clear hfin
      go_wp2
      refine bodyPost_ret (v := .tuple #[.agg #[.slice none 0 0, .slice none 0 0, .slice none 0 0], .bool false]) (by simp [results, Tryz.results11, go_sem, k0, k1, k2]) rfl ?_
      exact ⟨_, zP, false, rfl, Or.inr ⟨rfl, rfl, HNO.out⟩, zP_own _ _, HFF.out⟩
    · skip
      obtain ⟨b4, hb4⟩ : ∃ b, b = w3.heap.size := ⟨_, rfl⟩
      obtain ⟨W4, hW4⟩ : ∃ W, W = w3.alloc (.cells #[.slice q M.nodes.length c, .slice p M.fibers.length d] 34) := ⟨_, rfl⟩
      have hf4 : Fresh w3 W4 := by rw [hW4]; exact fnew (frefl _) _
      have H4 : Hid (RowAt W4 b4 34 [.slice q M.nodes.length c, .slice p M.fibers.length d]) := by show RowAt _ _ _ _; rw [hW4, hb4]; exact RowAt.new _ _ _
      have HF4 := Lib.hid (fstep HF.out (fstep hf3 hf4))
      have HR4 := Lib.hid (HR.out.keep (fstep hf3 hf4))
      have HOQ := Lib.hid ((hoq.mono HF.out.size).keep hf4)
      have HOP := Lib.hid ((hop.mono HF.out.size).keep hf4)
      have HIS := Lib.hid hin
      have HUQ := Lib.hid huq
      have HW4 := Lib.hid hW4
      have HB4 := Lib.hid hb4
      have hsm := netB_small hin.1
      have hR4 : bR < W4.heap.size := HR4.out.lt
      clear hf4 hf3 hW4 hb4 hoq hop hin huq
      by_cases h4k : 4000 < s.size
      · have hz : (4000 : Int) < (s.size : Int) := by omega
        have HNO : Hid (∀ Q, ¬ IsPlan (bs s) Q) := fun Q hQ => by have := hQ.2.2; rw [bs_len] at this; omega
        go_upto_region 5 with fail
        rw [← HW4.out, ← HB4.out]
        have x0 := HR4.out.cell (i := 0) rfl
        have u0 := HR4.out.frozen 0
        have x1 := HR4.out.cell (i := 1) rfl
        have u1 := HR4.out.frozen 1
        have x2 := HR4.out.cell (i := 2) rfl
        have u2 := HR4.out.frozen 2
        have hfin := (((HR4.out.set 0 (.slice none 0 0)).set 1 (.slice none 0 0)).set 2 (.slice none 0 0))
        have k0 := hfin.cell (i := 0) rfl
        have k1 := hfin.cell (i := 1) rfl
        have k2 := hfin.cell (i := 2) rfl
        have HFF := Lib.hid (fset (fset (fset HF4.out hlo (o := 0) (.slice none 0 0)) hlo (o := 1) (.slice none 0 0)) hlo (o := 2) (.slice none 0 0))
        clear hfin
        go_wp2
        refine bodyPost_ret (v := .tuple #[.agg #[.slice none 0 0, .slice none 0 0, .slice none 0 0], .bool false]) (by simp [results, Tryz.results11, go_sem, k0, k1, k2]) rfl ?_
        exact ⟨_, zP, false, rfl, Or.inr ⟨rfl, rfl, HNO.out⟩, zP_own _ _, HFF.out⟩
      · have hz : ¬ (4000 : Int) < (s.size : Int) := by omega
        have n0 := H4.out.cell (i := 0) rfl
        have n1 := H4.out.cell (i := 1) rfl
        obtain ⟨bP, hbP⟩ : ∃ b, b = W4.heap.size := ⟨_, rfl⟩
        have hloP : W4.heap.size ≤ bP := by omega
        obtain ⟨W7, hW7⟩ : ∃ W, W = W4.alloc (.cells #[.slice q M.nodes.length c, .slice p M.fibers.length d, .slice none 0 0] 37) := ⟨_, rfl⟩
        have hf7 : Fresh W4 W7 := by rw [hW7]; exact fnew (frefl _) _
        have HRP : Hid (RowAt W7 bP 37 [.slice q M.nodes.length c, .slice p M.fibers.length d, .slice none 0 0]) := by show RowAt _ _ _ _; rw [hW7, hbP]; exact RowAt.new _ _ _
        have HFB := Lib.hid hf7
        have HW7 := Lib.hid hW7
        have HBP := Lib.hid hbP
        clear h4k hf7 hW7 hbP
        go_upto_region 7 with fail
        rw [← HW4.out, ← HB4.out]
        go_upto_region 8 with fail
        rw [← HW7.out, ← HBP.out]
        clear HW4 HB4 HW7 HBP n0 n1
        have HLN := Lib.hid (linesOf_any U W7 hUs (HM.out.keep (fstep HF4.out HFB.out)))
        go_wp2_with fail
        refine (HLN.out).mono ?_
        clear HLN
        rintro e w8 (⟨hlk, ⟨q0, n0, c0, rfl⟩, hf8⟩ | ⟨hlk, v8, rfl, ho8, hf8⟩)
        · have HNO : Hid (∀ Q, ¬ IsPlan (bs s) Q) := fun Q hQ => by have := (HIN.out Q hQ).2.1; rw [hlk] at this; cases this
          have HR8 := Lib.hid (HR4.out.keep (fstep HFB.out hf8))
          have HF8 := Lib.hid (fstep HF4.out (fstep HFB.out hf8))
          clear hf8 hlk
          have x0 := HR8.out.cell (i := 0) rfl
          have u0 := HR8.out.frozen 0
          have x1 := HR8.out.cell (i := 1) rfl
          have u1 := HR8.out.frozen 1
          have x2 := HR8.out.cell (i := 2) rfl
          have u2 := HR8.out.frozen 2
          have hfin := (((HR8.out.set 0 (.slice none 0 0)).set 1 (.slice none 0 0)).set 2 (.slice none 0 0))
          have k0 := hfin.cell (i := 0) rfl
          have k1 := hfin.cell (i := 1) rfl
          have k2 := hfin.cell (i := 2) rfl
          have HFF := Lib.hid (fset (fset (fset HF8.out hlo (o := 0) (.slice none 0 0)) hlo (o := 1) (.slice none 0 0)) hlo (o := 2) (.slice none 0 0))
          clear hfin
          go_wp2
          refine bodyPost_ret (v := .tuple #[.agg #[.slice none 0 0, .slice none 0 0, .slice none 0 0], .bool false]) (by simp [results, Tryz.results11, go_sem, k0, k1, k2]) rfl ?_
          exact ⟨_, zP, false, rfl, Or.inr ⟨rfl, rfl, HNO.out⟩, zP_own _ _, HFF.out⟩
        · skip
          obtain ⟨Qs, hQ⟩ : ∃ P, P = splitC 10 (bs U).dropLast := ⟨_, rfl⟩
          rw [← hQ] at ho8 HIN
          have hq0 : 0 < Qs.length := by rw [hQ]; exact Nat.pos_of_ne_zero fun h => splitC_ne 10 _ (List.eq_nil_of_length_eq_zero h)
          have hul := linesOk_len hlk
          have hq1 : Qs.length ≤ 4001 := by rw [hQ]; have h1 := (splitC_small 10 (bs U).dropLast).1; rw [List.length_dropLast] at h1; omega
          have HQS : Hid (∀ (k : Nat) (x : List UInt8), Qs[k]? = some x → (ba x).size ≤ 4000) := fun k x hx => by
            rw [ba_size]
            have h1 := (splitC_small 10 (bs U).dropLast).2 x (by rw [← hQ]; exact List.mem_of_getElem? hx)
            rw [List.length_dropLast] at h1; omega
          obtain ⟨gl, cl8, cls, rfl, hrl, hcl⟩ := strs_rowR ho8 hq0
          have HCL := Lib.hid hcl
          have HRL := Lib.hid hrl
          replace HRP := Lib.hid (HRP.out.keep hf8)
          replace HFB := Lib.hid (fstep HFB.out hf8)
          have HM0 : Hid (∀ R, IsPlan (bs s) R → ([] : List LL).map LL.val = R.lights.take 0) := fun R _ => by simp
          clear ho8 hQ hul hlk hrl hcl hf8
          go_wp2
          go_loopw [55] (fun i wr => ∃ (k : Nat) (V : Value) (l : List LL), k ≤ Qs.length ∧ i = .int .i64 k ∧ l.length = k ∧ RowAt wr bP 37 [.slice q M.nodes.length c, .slice p M.fibers.length d, V] ∧ wr.ownsRow W4.heap.size 58 5 V l.length (l.flatMap llC) ∧ (∀ x ∈ l, Own wr W4.heap.size 3 x.r.q (x.r.fibs.map iv)) ∧ (∀ x ∈ l, x.r.fibs.length ≤ 1048576) ∧ DistL l ∧ (∀ x ∈ l, ∀ g o, x.r.q = some ⟨g, o, none⟩ → g < wr.heap.size) ∧ Hid (∀ R, IsPlan (bs s) R → l.map LL.val = R.lights.take k) ∧ RowAt wr gl 9 cls ∧ Fresh W4 wr) (fun i _ => Qs.length - (intOf i).toNat)
          case atStart => exact ⟨0, .slice none 0 0, [], Nat.zero_le _, rfl, rfl, HRP.out, World.ownsRow_nil _ _ _ _, (fun x hx => by cases hx), (fun x hx => by cases hx), DistL.nil, (fun x hx => by cases hx), HM0.out, HRL.out, HFB.out⟩
          case round =>
            clear HRP HFB HRL HM0
            obtain ⟨k, V, l, hk, rfl, hll, hrp, how, hio, hls, hdi, hbl, HLV, hrl, hf⟩ := hrel
            obtain ⟨pV, cV, rfl, hoV, hcV1, hcV2⟩ := owns_cap how
            have HFB := Lib.hid hf
            have HFW := Lib.hid (fstep HF4.out hf)
            have HRP := Lib.hid hrp
            have HOW := Lib.hid how
            have HLL := Lib.hid hll
            have HIO := Lib.hid hio
            have HLS := Lib.hid hls
            have HDI := Lib.hid hdi
            have HBL := Lib.hid hbl
            have HRL := Lib.hid hrl
            have HNI : Hid (NetIn wr (.agg #[.slice q M.nodes.length c, .slice p M.fibers.length d]) M) := ⟨_, _, _, _, rfl, (HOQ.out.keep hf).cells, (HOP.out.keep hf).cells, hsm.1.1, hsm.2, hc1, hc2, hsm.1.2⟩
            have hl4 : l.length ≤ 1048576 := by omega
            by_cases hlt : k < Qs.length
            · have hltz : (k : Int) < (Qs.length : Int) := by omega
              have hw1 : IntKind.i64.wrap ((k : Int) + 1) = (k : Int) + 1 := by rw [IntKind.wrap_i64]; omega
              obtain ⟨y8, hy⟩ : ∃ y, Qs[k]? = some y := ⟨Qs[k], List.getElem?_eq_getElem hlt⟩
              have hcy := hrl.cell (HCL.out k y8 hy)
              have n0 := (H4.out.keep hf).cell (i := 0) rfl
              have n1 := (H4.out.keep hf).cell (i := 1) rfl
              have HRD := Lib.hid (readLight_any _ M (ba y8) wr HNI.out HIS.out.1 (HQS.out k y8 hy) (HT.out.keep HFW.out) (HS.out.keep HFW.out) (HM.out.keep HFW.out))
              have HY := Lib.hid hy
              clear hf how hrp hoV hll hio hls hdi hbl hrl hy
              go_wp2_with fail
              refine (HRD.out).mono ?_
              clear HRD
              rintro e w9 ⟨⟨xid, ⟨xs, xq, xc, xl⟩, xf, xcn⟩, kk, rfl, hox, hxl, hf9, hall⟩
              simp only at hox hxl
              have HAL : Hid (∀ R, IsPlan (bs s) R → kk = true ∧ (l ++ [(⟨xid, ⟨xs, xq, xc, xl⟩, xf, xcn⟩ : LL)]).map LL.val = R.lights.take (k + 1)) := fun R hR => by
                obtain ⟨h1, _, h2⟩ := HIN.out R hR
                obtain ⟨X, e1, e2, e3⟩ := lt_line hR.1 h2 HY.out
                rw [HUQ.out _ h1] at e2 e3
                obtain ⟨e4, e5⟩ := hall X e2 (by rw [bs_ba]; exact e3)
                refine ⟨e4, ?_⟩
                rw [List.map_append, HLV.out R hR]
                show _ ++ [LL.val _] = _
                rw [e5]; exact take_snoc e1
              obtain ⟨bX, hbX⟩ : ∃ b, b = w9.heap.size := ⟨_, rfl⟩
              obtain ⟨W5, hW5⟩ : ∃ W, W = w9.alloc (.cells #[.int .i64 xid, .int .i64 xs, .slice xq xl.length xc, .int .i64 xf, .int .i64 xcn] 58) := ⟨_, rfl⟩
              have hf95 : Fresh w9 W5 := by rw [hW5]; exact fnew (frefl _) _
              have hf5 : Fresh wr W5 := fstep hf9 hf95
              have HSZ9 := Lib.hid hf9.size
              have HX5 : Hid (RowAt W5 bX 58 [.int .i64 xid, .int .i64 xs, .slice xq xl.length xc, .int .i64 xf, .int .i64 xcn]) := by show RowAt _ _ _ _; rw [hW5, hbX]; exact RowAt.new _ _ _
              have HOX := Lib.hid (hox.keep hf95)
              have HF5 := Lib.hid hf5
              have HRP5 := Lib.hid (HRP.out.keep hf5)
              have HR5 := Lib.hid ((HR4.out.keep HFB.out).keep hf5)
              have HRL5 := Lib.hid (HRL.out.keep hf5)
              have HOW5 := Lib.hid (ownsRow_keep HOW.out hf5)
              have HFB5 := Lib.hid (fstep HFB.out hf5)
              have HW5 := Lib.hid hW5
              have HBX := Lib.hid hbX
              have hszr := HFB.out.size
              clear hW5 hbX hf5 hf9 hf95 hall hox n0 n1 hcy
              go_upto_region 16 with fail
              rw [← HW5.out, ← HBX.out]
              cases kk with
              | false =>
                have HNO : Hid (∀ R, ¬ IsPlan (bs s) R) := fun R hR => by have := (HAL.out R hR).1; cases this
                have x0 := HR5.out.cell (i := 0) rfl
                have u0 := HR5.out.frozen 0
                have x1 := HR5.out.cell (i := 1) rfl
                have u1 := HR5.out.frozen 1
                have x2 := HR5.out.cell (i := 2) rfl
                have u2 := HR5.out.frozen 2
                have hfin := (((HR5.out.set 0 (.slice none 0 0)).set 1 (.slice none 0 0)).set 2 (.slice none 0 0))
                have k0 := hfin.cell (i := 0) rfl
                have k1 := hfin.cell (i := 1) rfl
                have k2 := hfin.cell (i := 2) rfl
                have HFF := Lib.hid (fset (fset (fset (fstep HF4.out HFB5.out) hlo (o := 0) (.slice none 0 0)) hlo (o := 1) (.slice none 0 0)) hlo (o := 2) (.slice none 0 0))
                clear hfin
                go_wp2
                refine bodyPost_ret (v := .tuple #[.agg #[.slice none 0 0, .slice none 0 0, .slice none 0 0], .bool false]) (by simp [results, Tryz.results11, go_sem, k0, k1, k2]) rfl ?_
                exact ⟨_, zP, false, rfl, Or.inr ⟨rfl, rfl, HNO.out⟩, zP_own _ _, HFF.out⟩
              | true =>
                have n2 := HRP5.out.cell (i := 2) rfl
                have f0 := HX5.out.cell (i := 0) rfl
                have f1 := HX5.out.cell (i := 1) rfl
                have f2 := HX5.out.cell (i := 2) rfl
                have f3 := HX5.out.cell (i := 3) rfl
                have f4 := HX5.out.cell (i := 4) rfl
                go_wp2_with (at_builtin; refine wpList_app_b Tryz.underlying35 infoLt rfl (by decide) (by decide) W4 W5 _ l.length (l.flatMap llC) [iv xid, iv xs, .slice xq xl.length xc, iv xf, iv xcn] _ rfl (one_lt ⟨xid, ⟨xs, xq, xc, xl⟩, xf, xcn⟩) rfl _ _ rfl rfl HOW5.out rfl rfl hl4 HFB5.out ?_; intro v3 w3' hown3 hf3 hk3; obtain ⟨r3, e3, hv3, _⟩ := owns_cap hown3; subst hv3; have hrn3 := hk3 _ _ _ HRP5.out (Or.inl (by decide)); have z2 := hrn3.frozen 2; have y2 := hrn3.cell (i := 2) rfl)
                have HO3 := Lib.hid hown3
                have HF3 := Lib.hid hf3
                have HK3 := Lib.hid hk3
                have HN3 := Lib.hid hrn3
                clear hown3 hf3 hk3 hrn3 f0 f1 f2 f3 f4 n2
                go_wp2
                go_roundw
                case rel =>
                  have hS : ∀ {pp : Option Addr} {cs : List Value}, Own W5 W4.heap.size 3 pp cs → Own (w3'.setCell ⟨bP, 2, none⟩ (.slice r3 (l.length + 1) e3)) W4.heap.size 3 pp cs := by
                    intro pp cs h1
                    have h2 : Own w3' W4.heap.size 3 pp cs := by
                      rcases h1 with h1 | ⟨g, sp, a1, a2, a3⟩
                      · exact Or.inl h1
                      · exact Or.inr ⟨g, sp, a1, a2, HK3.out _ _ _ a3 (Or.inl (by decide))⟩
                    exact h2.setO HN3.out (by decide) _ _
                  have hszp : wr.heap.size ≤ w3'.heap.size := by
                    have h9 : wr.heap.size ≤ bX := by have h1 := HBX.out; have h2 := HSZ9.out; omega
                    have h2 := (HK3.out _ _ _ HX5.out (Or.inr fun e => absurd (owns_lt HOW.out e) (by omega))).lt
                    omega
                  have hxb : ∀ g o, xq = some ⟨g, o, none⟩ → wr.heap.size ≤ g ∧ g < w3'.heap.size := by
                    intro g o e
                    rcases HOX.out with ⟨e0, _⟩ | ⟨b, sp, e0, e1, e2⟩
                    · rw [e0] at e; cases e
                    · rw [e0] at e; cases e
                      exact ⟨e1, (HK3.out _ _ _ e2 (Or.inl (by decide))).lt⟩
                  refine ⟨k + 1, .slice r3 (l.length + 1) e3, l ++ [⟨xid, ⟨xs, xq, xc, xl⟩, xf, xcn⟩], by omega, by go_num, by simp [HLL.out], HN3.out.set 2 _, ?_, ?_, ?_, HDI.out.snoc ?_, ?_, fun R hR => (HAL.out R hR).2, (HK3.out _ _ _ HRL5.out (Or.inl (by decide))).setOther (row_ne (HK3.out _ _ _ HRL5.out (Or.inl (by decide))) HN3.out (by decide)) _, fset HF3.out hloP _⟩
                  · have := owns_setO (u := .slice r3 (l.length + 1) e3) HO3.out HN3.out (by decide) 2
                    rw [List.length_append, List.flatMap_append]
                    simpa using this
                  · intro y hy
                    rcases List.mem_append.1 hy with hy | hy
                    · exact hS ((HIO.out y hy).keep HF5.out)
                    · rw [List.mem_singleton.1 hy]; exact hS (HOX.out.mono hszr)
                  · intro y hy
                    rcases List.mem_append.1 hy with hy | hy
                    · exact HLS.out y hy
                    · rw [List.mem_singleton.1 hy]; exact hxl
                  · intro y hy g o h o' e1 e2
                    have h1 := (hxb g o e1).1
                    have h2 := HBL.out y hy h o' e2
                    omega
                  · intro y hy g o e
                    have hsz9 : (w3'.setCell ⟨bP, 2, none⟩ (.slice r3 (l.length + 1) e3)).heap.size = w3'.heap.size := by simp
                    rw [hsz9]
                    rcases List.mem_append.1 hy with hy | hy
                    · have := HBL.out y hy g o e
                      omega
                    · rw [List.mem_singleton.1 hy] at e
                      exact (hxb g o e).2
                case measure => simp [intOf]; omega
            · have hltz : ¬ (k : Int) < (Qs.length : Int) := by omega
              have HALL : Hid (∀ Q, IsPlan (bs s) Q → Q = ⟨M, l.map LL.val⟩) := fun Q hQ => by
                obtain ⟨h1, _, h2⟩ := HIN.out Q hQ
                have h3 := HLV.out Q hQ
                have h4 := congrArg List.length h2
                rw [List.length_map] at h4
                rw [List.take_of_length_le (by omega)] at h3
                obtain ⟨Qn, Ql⟩ := Q
                simp only at h1 h3
                rw [HUQ.out _ h1, h3]
              have HOVV := Lib.hid hoV
              clear hf how hrp hoV hll hio hls hdi hbl hrl
              have HPI : Hid (PlIn wr (.agg #[.slice q M.nodes.length c, .slice p M.fibers.length d, .slice pV l.length cV]) (⟨M, l.map LL.val⟩ : PlanV)) := ⟨q, _, c, p, _, d, pV, cV, l, rfl, ⟨_, _, _, _, rfl, (HOQ.out.keep HFB.out).cells, (HOP.out.keep HFB.out).cells, hsm.1.1, hsm.2, hc1, hc2, hsm.1.2⟩, ⟨Own.cells (base := W4.heap.size) (t := 58) HOVV.out, fun x hx => (show Own wr W4.heap.size 3 x.r.q (x.r.fibs.map iv) from HIO.out x hx).ints⟩, ⟨hl4, HLS.out⟩, rfl, hcV1, hcV2⟩
              have HFP := Lib.hid (implFormatPlan_any _ _ wr HPI.out (HT.out.keep (fstep HF4.out HFB.out)))
              unfold OutFp at HFP
              have p0 := HRP.out.cell (i := 0) rfl
              have p1 := HRP.out.cell (i := 1) rfl
              have p2 := HRP.out.cell (i := 2) rfl
              have HR9 := Lib.hid (HR4.out.keep HFB.out)
              cases hb : planB (⟨M, l.map LL.val⟩ : PlanV) with
              | false =>
                rw [hb, if_neg (by simp)] at HFP
                have HNO : Hid (∀ Q, ¬ IsPlan (bs s) Q) := fun Q hQ => by
                  have h2 := hQ.1
                  rw [HALL.out Q hQ, hb] at h2
                  cases h2
                clear hb
                go_wp2_with fail
                refine (HFP.out).mono ?_
                clear HFP
                rintro e wf ⟨rfl, hff⟩
                have HRF := Lib.hid (HR9.out.keep hff)
                have HFF0 := Lib.hid (fstep (fstep HF4.out HFB.out) hff)
                clear hff p0 p1 p2
                have x0 := HRF.out.cell (i := 0) rfl
                have u0 := HRF.out.frozen 0
                have x1 := HRF.out.cell (i := 1) rfl
                have u1 := HRF.out.frozen 1
                have x2 := HRF.out.cell (i := 2) rfl
                have u2 := HRF.out.frozen 2
                have hfin := (((HRF.out.set 0 (.slice none 0 0)).set 1 (.slice none 0 0)).set 2 (.slice none 0 0))
                have k0 := hfin.cell (i := 0) rfl
                have k1 := hfin.cell (i := 1) rfl
                have k2 := hfin.cell (i := 2) rfl
                have HFF := Lib.hid (fset (fset (fset HFF0.out hlo (o := 0) (.slice none 0 0)) hlo (o := 1) (.slice none 0 0)) hlo (o := 2) (.slice none 0 0))
                clear hfin
                go_wp2
                refine bodyPost_ret (v := .tuple #[.agg #[.slice none 0 0, .slice none 0 0, .slice none 0 0], .bool false]) (by simp [results, Tryz.results11, go_sem, k0, k1, k2]) rfl ?_
                exact ⟨_, zP, false, rfl, Or.inr ⟨rfl, rfl, HNO.out⟩, zP_own _ _, HFF.out⟩
              | true =>
                rw [hb, if_pos rfl] at HFP
                have HB := Lib.hid hb
                clear hb
                obtain ⟨t, ht⟩ : ∃ t, t = ba (planX (⟨M, l.map LL.val⟩ : PlanV)) := ⟨_, rfl⟩
                rw [← ht] at HFP
                by_cases he : t = s
                · have hd := streq he
                  have HIP : Hid (IsPlan (bs s) (⟨M, l.map LL.val⟩ : PlanV)) := ⟨HB.out, by rw [← he, ht, bs_ba], by rw [bs_len]; omega⟩
                  clear he ht
                  go_wp2_with fail
                  refine (HFP.out).mono ?_
                  clear HFP
                  rintro e wf ⟨rfl, hff⟩
                  have HRX := Lib.hid (HR9.out.keep hff)
                  have HFB9 := Lib.hid (fstep HFB.out hff)
                  have HFF9 := Lib.hid hff
                  replace p0 := fkeep hff p0
                  replace p1 := fkeep hff p1
                  replace p2 := fkeep hff p2
                  have x0 := HRX.out.cell (i := 0) rfl
                  have u0 := HRX.out.frozen 0
                  have x1 := HRX.out.cell (i := 1) rfl
                  have u1 := HRX.out.frozen 1
                  have x2 := HRX.out.cell (i := 2) rfl
                  have u2 := HRX.out.frozen 2
                  have hfin := (((HRX.out.set 0 (.slice q M.nodes.length c)).set 1 (.slice p M.fibers.length d)).set 2 (.slice pV l.length cV))
                  have k0 := hfin.cell (i := 0) rfl
                  have k1 := hfin.cell (i := 1) rfl
                  have k2 := hfin.cell (i := 2) rfl
                  have HFF := Lib.hid (fset (fset (fset (fstep HF4.out HFB9.out) hlo (o := 0) (.slice q M.nodes.length c)) hlo (o := 1) (.slice p M.fibers.length d)) hlo (o := 2) (.slice pV l.length cV))
                  clear hfin hff
                  go_wp2
                  refine bodyPost_ret (v := .tuple #[.agg #[.slice q M.nodes.length c, .slice p M.fibers.length d, .slice pV l.length cV], .bool true]) (by simp [results, Tryz.results11, go_sem, k0, k1, k2]) rfl ?_
                  have hS : ∀ {t : TypeId} {pp : Option Addr} {xs : List Value}, Own wf w.heap.size t pp xs → t ≠ 37 → Own (((wf.setCell ⟨bR, 0, none⟩ (.slice q M.nodes.length c)).setCell ⟨bR, 1, none⟩ (.slice p M.fibers.length d)).setCell ⟨bR, 2, none⟩ (.slice pV l.length cV)) w.heap.size t pp xs := fun h n => ((h.setO HRX.out n _ _).setO (HRX.out.set 0 _) n _ _).setO ((HRX.out.set 0 _).set 1 _) n _ _
                  exact ⟨_, (⟨M, l.map LL.val⟩ : PlanV), true, rfl, Or.inl ⟨rfl, HIP.out, HALL.out⟩, ⟨q, c, p, d, pV, cV, l, rfl, hS (HOQ.out.keep HFB9.out) (by decide), hS (HOP.out.keep HFB9.out) (by decide), hS ((show Own wr W4.heap.size 58 pV (l.flatMap llC) from HOVV.out).keep HFF9.out |>.mono HF4.out.size) (by decide), fun x hx => hS (((show Own wr W4.heap.size 3 x.r.q (x.r.fibs.map iv) from HIO.out x hx).keep HFF9.out).mono HF4.out.size) (by decide), HDI.out, rfl, hc1, hc2, hcV1, hcV2⟩, HFF.out⟩
                · have hd := strne he
                  have HNO : Hid (∀ Q, ¬ IsPlan (bs s) Q) := fun Q hQ => by
                    have h2 := hQ.2.1
                    rw [HALL.out Q hQ] at h2
                    exact he (by rw [ht, h2, ba_bs])
                  clear he ht
                  go_wp2_with fail
                  refine (HFP.out).mono ?_
                  clear HFP
                  rintro e wf ⟨rfl, hff⟩
                  have HRF := Lib.hid (HR9.out.keep hff)
                  have HFF0 := Lib.hid (fstep (fstep HF4.out HFB.out) hff)
                  clear hff p0 p1 p2
                  have x0 := HRF.out.cell (i := 0) rfl
                  have u0 := HRF.out.frozen 0
                  have x1 := HRF.out.cell (i := 1) rfl
                  have u1 := HRF.out.frozen 1
                  have x2 := HRF.out.cell (i := 2) rfl
                  have u2 := HRF.out.frozen 2
                  have hfin := (((HRF.out.set 0 (.slice none 0 0)).set 1 (.slice none 0 0)).set 2 (.slice none 0 0))
                  have k0 := hfin.cell (i := 0) rfl
                  have k1 := hfin.cell (i := 1) rfl
                  have k2 := hfin.cell (i := 2) rfl
                  have HFF := Lib.hid (fset (fset (fset HFF0.out hlo (o := 0) (.slice none 0 0)) hlo (o := 1) (.slice none 0 0)) hlo (o := 2) (.slice none 0 0))
                  clear hfin
                  go_wp2
                  refine bodyPost_ret (v := .tuple #[.agg #[.slice none 0 0, .slice none 0 0, .slice none 0 0], .bool false]) (by simp [results, Tryz.results11, go_sem, k0, k1, k2]) rfl ?_
                  exact ⟨_, zP, false, rfl, Or.inr ⟨rfl, rfl, HNO.out⟩, zP_own _ _, HFF.out⟩
end Go.Proofs.YtjhaoonacjebpaaGreatDoor
