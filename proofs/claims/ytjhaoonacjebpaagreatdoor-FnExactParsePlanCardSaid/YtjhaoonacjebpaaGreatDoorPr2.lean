/- Contracts: a light's line is read, the program's side. (Printed by gen_pr2.py.) -/
import Derived.Test.YtjhaoonacjebpaaGreatDoorPr1
namespace Go.Proofs.YtjhaoonacjebpaaGreatDoor
open Go.RowKit Go.PlainAid

/-- A light is handed back, and whether the line could be read: the right one where the line is a light's. -/
def OutRl (n : Net) (good : LtV → Prop) (w : World) (e : Ending) (w' : World) : Prop := ∃ (x : LL) (k : Bool), e = .returned (.tuple #[llV x, .bool k]) ∧ Own w' w.heap.size 3 x.r.q (x.r.fibs.map iv) ∧ x.r.fibs.length ≤ 1048576 ∧ Fresh w w' ∧ ∀ X : LtV, ltB n X = true → good X → k = true ∧ x.val = X
set_option maxHeartbeats 8000000 in
set_option maxRecDepth 100000 in
theorem readLight_any (v : Value) (n : Net) (s : ByteArray) (w : World) (h : NetIn w v n) (hn : netB n = true) (hs : s.size ≤ 4000) (hT : TabE w) (hS : SynE w) (hM : MaxE w) : Calls Tryz.prog 33 #[v, .string s] w (OutRl n (fun X => lightL n X = bs s) w) := by
  have HNI := Lib.hid h
  obtain ⟨N, F⟩ := n
  obtain ⟨qn, cn, pn, cp, rfl, hN, hF, n1, n2, n3, n4, hsz⟩ := h
  simp only at hN hF n1 n2 n3 hsz
  obtain ⟨W2, hW2, hsz2, hf2, r1, r2⟩ := two_rows w [.slice qn N.length cn, .slice pn F.length cp] [.int .i64 0, .int .i64 0, .slice none 0 0, .int .i64 0, .int .i64 0] 34 58
  obtain ⟨bN, hbN⟩ : ∃ b, b = w.heap.size := ⟨_, rfl⟩
  obtain ⟨bZ, hbZ⟩ : ∃ b, b = w.heap.size + 1 := ⟨_, rfl⟩
  rw [← hbN] at r1
  rw [← hbZ] at r2
  have hlo : w.heap.size ≤ bZ := by omega
  have HSP := Lib.hid (split_any s 32 W2 (by omega) (hM.keep hf2))
  have HNW := Lib.hid (HNI.out.keep hf2)
  have HT := Lib.hid (hT.keep hf2)
  have HS := Lib.hid (hS.keep hf2)
  have HM := Lib.hid (hM.keep hf2)
  have HF2 := Lib.hid hf2
  have HRN := Lib.hid r1
  have HRZ := Lib.hid r2
  have HW2 := Lib.hid hW2
  have HBN := Lib.hid hbN
  have HBZ := Lib.hid hbZ
  have HNN := Lib.hid hn
  have HSS4 := Lib.hid hs
  clear hW2 hsz2 hf2 r1 r2 hN hF hsz hT hS hM hbN hbZ hn HNI
  go_enter Tryz.func33, Tryz.ntmps33
  go_upto_region 1 with fail
  rw [← HW2.out, ← HBZ.out, ← HBN.out]
  go_wp2_with fail
  refine (HSP.out).mono ?_
  clear HSP
  rintro e w3 ⟨v3, rfl, ho, hf3⟩
  obtain ⟨P, hP⟩ : ∃ P, P = splitC 32 (bs s) := ⟨_, rfl⟩
  rw [← hP] at ho
  have hp0 : 0 < P.length := by rw [hP]; exact Nat.pos_of_ne_zero fun h => splitC_ne 32 (bs s) (List.eq_nil_of_length_eq_zero h)
  obtain ⟨gw, cw, rfl, hcell⟩ := strs_row ho hp0
  have HWS : Hid (∀ x ∈ P, (ba x).size ≤ 4000) := fun x hx => by rw [ba_size]; rw [hP] at hx; have h1 := (splitC_small 32 (bs s)).2 x hx; rw [bs_len] at h1; omega
  have HF3 := Lib.hid hf3
  have HCE := Lib.hid hcell
  have HP := Lib.hid hP
  have HRZ3 := Lib.hid (HRZ.out.keep hf3)
  have HFW3 := Lib.hid (fstep HF2.out hf3)
  have HL4 : Hid (∀ X, ltB ⟨N, F⟩ X = true → lightL ⟨N, F⟩ X = bs s → P.length = 4) := fun X h1 h2 => by rw [hP]; exact lt_len4 HNN.out h1 h2
  clear hf3 ho hcell hP hs
  by_cases h4 : P.length = 4
  · obtain ⟨x0, x1, x2, x3, hx⟩ := four_of h4
    subst hx
    rw [show [x0, x1, x2, x3].length = 4 from rfl]
    have g1 := HCE.out 1 x1 rfl
    have g2 := HCE.out 2 x2 rfl
    have g3 := HCE.out 3 x3 rfl
    have HX2 : Hid ((ba x2).size ≤ 4000) := HWS.out x2 (by simp)
    have HX3 : Hid ((ba x3).size ≤ 4000) := HWS.out x3 (by simp)
    have c0 := (HRN.out.keep HF3.out).cell (i := 0) rfl
    have c1 := (HRN.out.keep HF3.out).cell (i := 1) rfl
    have HLT : Hid (∀ X, ltB ⟨N, F⟩ X = true → lightL ⟨N, F⟩ X = bs s → LtOf ⟨N, F⟩ X x1 x2 x3) := fun X h1 h2 => lt_four HNN.out HP.out.symm h1 h2
    clear h4 HL4 HWS
    go_upto_region 4 with fail
    go_wp2_with fail
    refine (parseInt_any (ba x1) _ (HT.out.keep HF3.out) (HS.out.keep HF3.out)).mono ?_
    rintro e w4 ⟨rfl, hf4⟩
    rw [bs_ba]
    obtain ⟨nn, hnn⟩ : ∃ nn, nn = numF x1 := ⟨_, rfl⟩
    rw [← hnn]
    obtain ⟨i1, hi1⟩ : ∃ i, i = nn.getD 0 := ⟨_, rfl⟩
    obtain ⟨k1, hk1⟩ : ∃ k, k = nn.isSome := ⟨_, rfl⟩
    rw [← hi1, ← hk1]
    have HA1 : Hid (∀ X, ltB ⟨N, F⟩ X = true → lightL ⟨N, F⟩ X = bs s → k1 = true ∧ i1 = X.1) := fun X h1 h2 => by
      have h3 := (HLT.out X h1 h2).1
      rw [hk1, hi1, hnn, h3]; exact ⟨rfl, rfl⟩
    have HF4 := Lib.hid (fstep HF3.out hf4)
    have HFW4 := Lib.hid (fstep HFW3.out hf4)
    replace c0 := fkeep hf4 c0
    replace c1 := fkeep hf4 c1
    replace g2 := fkeep hf4 g2
    replace g3 := fkeep hf4 g3
    replace HRZ3 := Lib.hid (HRZ3.out.keep hf4)
    clear hf4 g1 hnn hi1 hk1 nn
    go_upto_region 5 with fail
    go_cut [9, 10] (fun z9 z10 wx => ∃ (gb : Nat) (st : Int) (qr : Option Addr) (fl : List Int) (capr : Nat) (k2 : Bool), z9 = .pointer (some ⟨gb, 0, none⟩) ∧ z10 = .bool k2 ∧ RowAt wx gb 54 [.int .i64 st, .slice qr fl.length capr] ∧ Own wx w4.heap.size 3 qr (fl.map iv) ∧ fl.length ≤ 1048576 ∧ Hid (∀ R, IsRt ⟨N, F⟩ x2 R → k2 = true ∧ R = (st, fl)) ∧ Fresh w4 wx ∧ w4.heap.size ≤ gb)
    case first =>
      refine hd_start (n := 10) (S := fun wz => wz.cell? ⟨bN, 0, none⟩ = some (.slice qn N.length cn) ∧ wz.cell? ⟨bN, 1, none⟩ = some (.slice pn F.length cp) ∧ wz.cell? ⟨gw, 2, none⟩ = some (.string (ba x2))) (by kernel_rfl) (by kernel_rfl) ⟨fkeep (fdrew (frefl _)) c0, fkeep (fdrew (frefl _)) c1, fkeep (fdrew (frefl _)) g2⟩ (fun hHeld => ?_)
      obtain ⟨Wz, hWz⟩ : ∃ W, W = w4.drew := ⟨_, rfl⟩
      rw [← hWz] at hHeld ⊢
      have f0 : Fresh w4 Wz := by rw [hWz]; exact fdrew (frefl _)
      clear hWz
      refine hd_tk (i := 0) (v := ?_) rfl ?_ ?_
      rotate_left
      · (intro w hSw; (try dsimp only at hSw); go_simp; first | done | with_reducible rfl)
      try simp only [PU]
      refine hd_tk (i := 1) (v := ?_) rfl ?_ ?_
      rotate_left
      · (intro w hSw; (try dsimp only at hSw); go_simp; first | done | with_reducible rfl)
      try simp only [PU]
      refine hd_tk (i := 2) (v := ?_) rfl ?_ ?_
      rotate_left
      · (intro w hSw; (try dsimp only at hSw); go_simp; first | done | with_reducible rfl)
      try simp only [PU]
      refine hd_tk (i := 3) (v := ?_) rfl ?_ ?_
      rotate_left
      · (intro w hSw; (try dsimp only at hSw); go_simp; first | done | with_reducible rfl)
      try simp only [PU]
      refine hd_ready (rs := [4, 8]) (by kernel_rfl) (by simp) ?_
      refine hd_cons (i := 4) rfl (by kernel_rfl) (fun K hK => ?_) ?_
      · skip
        go_simp
        go_at_call 70
        refine (parseRoute_any _ ⟨N, F⟩ (ba x2) _ (HNW.out.keep (fstep HF4.out f0)) HNN.out HX2.out (HT.out.keep (fstep HF4.out f0)) (HS.out.keep (fstep HF4.out f0)) (HM.out.keep (fstep HF4.out f0))).mono ?_
        rintro e wk1 ⟨st, qr, fl, capr, k2, rfl, hor, hlf, hb1, hall⟩
        rw [bs_ba] at hall
        have HAL := Lib.hid hall
        replace hor := hor.mono f0.size
        clear hall
        have fk1 := fstep f0 hb1
        go_wp2_with fail
        refine hK.out _ _ ?_ (fun hHeld => ?_)
        · exact ⟨fkeep fk1 c0, fkeep fk1 c1, fkeep fk1 g2⟩
        clear hK K
        try simp only [PU]
        refine hd_tk (i := 5) (v := ?_) rfl ?_ ?_
        rotate_left
        · (intro w hSw; (try dsimp only at hSw); go_simp; first | done | with_reducible rfl)
        try simp only [PU]
        refine hd_tk (i := 6) (v := ?_) rfl ?_ ?_
        rotate_left
        · (intro w hSw; (try dsimp only at hSw); go_simp; first | done | with_reducible rfl)
        try simp only [PU]
        refine hd_tk (i := 7) (v := ?_) rfl ?_ ?_
        rotate_left
        · (intro w hSw; (try dsimp only at hSw); go_simp; first | done | with_reducible rfl)
        try simp only [PU]
        refine hd_one (i := 8) rfl (by kernel_rfl) (by kernel_rfl) (fun K hK => ?_)
        go_simp
        obtain ⟨wk2, hwa⟩ : ∃ W, W = wk1.alloc (.cells #[.int .i64 0, .slice none 0 0] 54) := ⟨_, rfl⟩
        obtain ⟨gb, hgb⟩ : ∃ g, g = wk1.heap.size := ⟨_, rfl⟩
        rw [← hwa, ← hgb]
        have hba : Fresh wk1 wk2 := by rw [hwa]; exact fnew (frefl _) _
        have ra : RowAt wk2 gb 54 [.int .i64 0, .slice none 0 0] := by rw [hwa, hgb]; exact RowAt.new _ _ _
        have hga : w4.heap.size ≤ gb := by rw [hgb]; exact fk1.size
        have fk2 := fstep fk1 hba
        clear hwa hgb
        replace hor := hor.keep hba
        clear hba
        refine hK.out _ _ ?_ (fun hHeld => ?_)
        · exact ⟨fkeep fk2 c0, fkeep fk2 c1, fkeep fk2 g2⟩
        clear hK K
        try simp only [PU]
        have zc0 := ra.cell (i := 0) rfl
        have uc0 := ra.frozen 0
        have zc1 := ra.cell (i := 1) rfl
        have uc1 := ra.frozen 1
        have fs := fset (fset (fk2) hga (o := 0) (.int .i64 st)) hga (o := 1) (.slice qr fl.length capr)
        refine hd_one (i := 9) rfl (by kernel_rfl) (by kernel_rfl) (fun K hK => ?_)
        (go_simp)
        refine hK.out _ _ ?_ (fun hHeld => ?_)
        · exact ⟨fkeep fs c0, fkeep fs c1, fkeep fs g2⟩
        clear hK K
        try simp only [PU]
        refine hd_done (by kernel_rfl) ?_
        clear hHeld
        simp only [List.drop_succ_cons, List.drop_zero]
        go_wp2_with fail
        go_meet
        have hrow := ((ra.set 0 (.int .i64 st)).set 1 (.slice qr fl.length capr))
        case rel => exact ⟨gb, st, qr, fl, capr, k2, rfl, rfl, hrow, (hor.setO ra (by decide) 0 _).setO (ra.set 0 _) (by decide) 1 _, hlf, HAL.out, fs, hga⟩
      · refine hd_cons (i := 8) rfl (by kernel_rfl) (fun K hK => ?_) hd_nil
        go_simp
        obtain ⟨wk3, hwa⟩ : ∃ W, W = Wz.alloc (.cells #[.int .i64 0, .slice none 0 0] 54) := ⟨_, rfl⟩
        obtain ⟨gb, hgb⟩ : ∃ g, g = Wz.heap.size := ⟨_, rfl⟩
        rw [← hwa, ← hgb]
        have hba : Fresh Wz wk3 := by rw [hwa]; exact fnew (frefl _) _
        have ra : RowAt wk3 gb 54 [.int .i64 0, .slice none 0 0] := by rw [hwa, hgb]; exact RowAt.new _ _ _
        have hga : w4.heap.size ≤ gb := by rw [hgb]; exact f0.size
        have fk3 := fstep f0 hba
        clear hwa hgb
        clear hba
        refine hK.out _ _ ?_ (fun hHeld => ?_)
        · exact ⟨fkeep fk3 c0, fkeep fk3 c1, fkeep fk3 g2⟩
        clear hK K
        try simp only [PU]
        refine hd_one (i := 4) rfl (by kernel_rfl) (by kernel_rfl) (fun K hK => ?_)
        go_simp
        go_at_call 70
        refine (parseRoute_any _ ⟨N, F⟩ (ba x2) _ (HNW.out.keep (fstep HF4.out fk3)) HNN.out HX2.out (HT.out.keep (fstep HF4.out fk3)) (HS.out.keep (fstep HF4.out fk3)) (HM.out.keep (fstep HF4.out fk3))).mono ?_
        rintro e wk4 ⟨st, qr, fl, capr, k2, rfl, hor, hlf, hb4, hall⟩
        rw [bs_ba] at hall
        have HAL := Lib.hid hall
        replace hor := hor.mono fk3.size
        clear hall
        have fk4 := fstep fk3 hb4
        replace ra := ra.keep hb4
        go_wp2_with fail
        refine hK.out _ _ ?_ (fun hHeld => ?_)
        · exact ⟨fkeep fk4 c0, fkeep fk4 c1, fkeep fk4 g2⟩
        clear hK K
        try simp only [PU]
        refine hd_tk (i := 5) (v := ?_) rfl ?_ ?_
        rotate_left
        · (intro w hSw; (try dsimp only at hSw); go_simp; first | done | with_reducible rfl)
        try simp only [PU]
        refine hd_tk (i := 6) (v := ?_) rfl ?_ ?_
        rotate_left
        · (intro w hSw; (try dsimp only at hSw); go_simp; first | done | with_reducible rfl)
        try simp only [PU]
        refine hd_tk (i := 7) (v := ?_) rfl ?_ ?_
        rotate_left
        · (intro w hSw; (try dsimp only at hSw); go_simp; first | done | with_reducible rfl)
        try simp only [PU]
        have zc0 := ra.cell (i := 0) rfl
        have uc0 := ra.frozen 0
        have zc1 := ra.cell (i := 1) rfl
        have uc1 := ra.frozen 1
        have fs := fset (fset (fk4) hga (o := 0) (.int .i64 st)) hga (o := 1) (.slice qr fl.length capr)
        refine hd_one (i := 9) rfl (by kernel_rfl) (by kernel_rfl) (fun K hK => ?_)
        (go_simp)
        refine hK.out _ _ ?_ (fun hHeld => ?_)
        · exact ⟨fkeep fs c0, fkeep fs c1, fkeep fs g2⟩
        clear hK K
        try simp only [PU]
        refine hd_done (by kernel_rfl) ?_
        clear hHeld
        simp only [List.drop_succ_cons, List.drop_zero]
        go_wp2_with fail
        go_meet
        have hrow := ((ra.set 0 (.int .i64 st)).set 1 (.slice qr fl.length capr))
        case rel => exact ⟨gb, st, qr, fl, capr, k2, rfl, rfl, hrow, (hor.setO ra (by decide) 0 _).setO (ra.set 0 _) (by decide) 1 _, hlf, HAL.out, fs, hga⟩
    case rest =>
      obtain ⟨gb, st, qr, fl, capr, k2, rfl, rfl, hrow, hor, hlf, HAL, hf5, hga⟩ := hcut
      have HRB := Lib.hid hrow
      have HOR := Lib.hid hor
      have HF5 := Lib.hid (fstep HF4.out hf5)
      have HFW5 := Lib.hid (fstep HFW4.out hf5)
      replace g3 := fkeep hf5 g3
      replace HRZ3 := Lib.hid (HRZ3.out.keep hf5)
      clear hrow hor hf5 c0 c1 g2
      go_upto_region 6 with fail
      go_wp2_with fail
      refine (implParseBlock_any (ba x3) _ (by have := HX3.out; omega) (HT.out.keep HF5.out) (HS.out.keep HF5.out) (HM.out.keep HF5.out)).mono ?_
      rintro e w6 ⟨rfl, hf6⟩
      rw [bs_ba]
      obtain ⟨nn, hnn⟩ : ∃ nn, nn = pblkF goodB x3 := ⟨_, rfl⟩
      rw [← hnn]
      obtain ⟨bf, hbf⟩ : ∃ i, i = (nn.getD (0, 0)).1 := ⟨_, rfl⟩
      obtain ⟨bc, hbc⟩ : ∃ i, i = (nn.getD (0, 0)).2 := ⟨_, rfl⟩
      obtain ⟨k3, hk3⟩ : ∃ k, k = nn.isSome := ⟨_, rfl⟩
      rw [← hbf, ← hbc, ← hk3]
      have HALL : Hid (∀ X, ltB ⟨N, F⟩ X = true → lightL ⟨N, F⟩ X = bs s → k1 = true ∧ k2 = true ∧ k3 = true ∧ (LL.val ⟨i1, ⟨st, qr, capr, fl⟩, bf, bc⟩ : LtV) = X) := fun X h1 h2 => by
        obtain ⟨e1, e2⟩ := HA1.out X h1 h2
        obtain ⟨_, e3, e4⟩ := HLT.out X h1 h2
        obtain ⟨e5, e6⟩ := HAL.out _ e3
        refine ⟨e1, e5, by rw [hk3, hnn, e4]; rfl, ?_⟩
        have e7 : (pblkF goodB x3).getD (0, 0) = X.2.2 := by rw [e4]; rfl
        show (i1, (st, fl), (bf, bc)) = X
        rw [hbf, hbc, hnn, e7, e2, ← e6]
      obtain ⟨gk, hgk⟩ : ∃ g, g = w6.heap.size := ⟨_, rfl⟩
      obtain ⟨W7, hW7⟩ : ∃ W, W = w6.alloc (.cells #[.int .i64 bf, .int .i64 bc] 56) := ⟨_, rfl⟩
      have hf7 : Fresh w6 W7 := by rw [hW7]; exact fnew (frefl _) _
      have HRK : Hid (RowAt W7 gk 56 [.int .i64 bf, .int .i64 bc]) := by show RowAt _ _ _ _; rw [hW7, hgk]; exact RowAt.new _ _ _
      have hf67 := fstep hf6 hf7
      have HFW7 := Lib.hid (fstep HFW5.out hf67)
      have HRB7 := Lib.hid (HRB.out.keep hf67)
      have HOR7 := Lib.hid (HOR.out.keep hf67)
      have HRZ7 := Lib.hid (HRZ3.out.keep hf67)
      have HW7 := Lib.hid hW7
      have HGK := Lib.hid hgk
      clear hf6 hf7 hf67 hnn hbf hbc hk3 nn g3 hW7 hgk
      go_upto_region 7 with fail
      rw [← HW7.out, ← HGK.out]
      have d0 := HRB7.out.cell (i := 0) rfl
      have d1 := HRB7.out.cell (i := 1) rfl
      have e0 := HRK.out.cell (i := 0) rfl
      have e1 := HRK.out.cell (i := 1) rfl
      have z0 := HRZ7.out.cell (i := 0) rfl
      have y0 := HRZ7.out.frozen 0
      have z1 := HRZ7.out.cell (i := 1) rfl
      have y1 := HRZ7.out.frozen 1
      have z2 := HRZ7.out.cell (i := 2) rfl
      have y2 := HRZ7.out.frozen 2
      have z3 := HRZ7.out.cell (i := 3) rfl
      have y3 := HRZ7.out.frozen 3
      have z4 := HRZ7.out.cell (i := 4) rfl
      have y4 := HRZ7.out.frozen 4
      have hfin := (((((HRZ7.out.set 0 (.int .i64 i1)).set 1 (.int .i64 st)).set 2 (.slice qr fl.length capr)).set 3 (.int .i64 bf)).set 4 (.int .i64 bc))
      have k10 := hfin.cell (i := 0) rfl
      have k11 := hfin.cell (i := 1) rfl
      have k12 := hfin.cell (i := 2) rfl
      have k13 := hfin.cell (i := 3) rfl
      have k14 := hfin.cell (i := 4) rfl
      have HFF := Lib.hid (fset (fset (fset (fset (fset HFW7.out hlo (o := 0) (.int .i64 i1)) hlo (o := 1) (.int .i64 st)) hlo (o := 2) (.slice qr fl.length capr)) hlo (o := 3) (.int .i64 bf)) hlo (o := 4) (.int .i64 bc))
      clear hfin
      cases k1 with
      | false =>
        go_wp2
        refine bodyPost_ret (v := .tuple #[.agg #[.int .i64 i1, .int .i64 st, .slice qr fl.length capr, .int .i64 bf, .int .i64 bc], .bool false]) (by simp [results, Tryz.results33, go_sem, k10, k11, k12, k13, k14]) rfl ?_
        exact ⟨⟨i1, ⟨st, qr, capr, fl⟩, bf, bc⟩, _, rfl, ((((((HOR7.out.mono HFW4.out.size).setO HRZ7.out (by decide) _ _).setO (HRZ7.out.set 0 _) (by decide) _ _).setO ((HRZ7.out.set 0 _).set 1 _) (by decide) _ _).setO (((HRZ7.out.set 0 _).set 1 _).set 2 _) (by decide) _ _).setO ((((HRZ7.out.set 0 _).set 1 _).set 2 _).set 3 _) (by decide) _ _), hlf, HFF.out, fun X h1 h2 => by obtain ⟨e1, e2, e3, e4⟩ := HALL.out X h1 h2; first | exact ⟨rfl, e4⟩ | (cases e1; done) | (cases e2; done) | (cases e3; done)⟩
      | true =>
        cases k2 with
        | false =>
          go_wp2
          refine bodyPost_ret (v := .tuple #[.agg #[.int .i64 i1, .int .i64 st, .slice qr fl.length capr, .int .i64 bf, .int .i64 bc], .bool false]) (by simp [results, Tryz.results33, go_sem, k10, k11, k12, k13, k14]) rfl ?_
          exact ⟨⟨i1, ⟨st, qr, capr, fl⟩, bf, bc⟩, _, rfl, ((((((HOR7.out.mono HFW4.out.size).setO HRZ7.out (by decide) _ _).setO (HRZ7.out.set 0 _) (by decide) _ _).setO ((HRZ7.out.set 0 _).set 1 _) (by decide) _ _).setO (((HRZ7.out.set 0 _).set 1 _).set 2 _) (by decide) _ _).setO ((((HRZ7.out.set 0 _).set 1 _).set 2 _).set 3 _) (by decide) _ _), hlf, HFF.out, fun X h1 h2 => by obtain ⟨e1, e2, e3, e4⟩ := HALL.out X h1 h2; first | exact ⟨rfl, e4⟩ | (cases e1; done) | (cases e2; done) | (cases e3; done)⟩
        | true =>
          cases k3 with
          | false =>
            go_wp2
            refine bodyPost_ret (v := .tuple #[.agg #[.int .i64 i1, .int .i64 st, .slice qr fl.length capr, .int .i64 bf, .int .i64 bc], .bool false]) (by simp [results, Tryz.results33, go_sem, k10, k11, k12, k13, k14]) rfl ?_
            exact ⟨⟨i1, ⟨st, qr, capr, fl⟩, bf, bc⟩, _, rfl, ((((((HOR7.out.mono HFW4.out.size).setO HRZ7.out (by decide) _ _).setO (HRZ7.out.set 0 _) (by decide) _ _).setO ((HRZ7.out.set 0 _).set 1 _) (by decide) _ _).setO (((HRZ7.out.set 0 _).set 1 _).set 2 _) (by decide) _ _).setO ((((HRZ7.out.set 0 _).set 1 _).set 2 _).set 3 _) (by decide) _ _), hlf, HFF.out, fun X h1 h2 => by obtain ⟨e1, e2, e3, e4⟩ := HALL.out X h1 h2; first | exact ⟨rfl, e4⟩ | (cases e1; done) | (cases e2; done) | (cases e3; done)⟩
          | true =>
            go_wp2
            refine bodyPost_ret (v := .tuple #[.agg #[.int .i64 i1, .int .i64 st, .slice qr fl.length capr, .int .i64 bf, .int .i64 bc], .bool true]) (by simp [results, Tryz.results33, go_sem, k10, k11, k12, k13, k14]) rfl ?_
            exact ⟨⟨i1, ⟨st, qr, capr, fl⟩, bf, bc⟩, _, rfl, ((((((HOR7.out.mono HFW4.out.size).setO HRZ7.out (by decide) _ _).setO (HRZ7.out.set 0 _) (by decide) _ _).setO ((HRZ7.out.set 0 _).set 1 _) (by decide) _ _).setO (((HRZ7.out.set 0 _).set 1 _).set 2 _) (by decide) _ _).setO ((((HRZ7.out.set 0 _).set 1 _).set 2 _).set 3 _) (by decide) _ _), hlf, HFF.out, fun X h1 h2 => by obtain ⟨e1, e2, e3, e4⟩ := HALL.out X h1 h2; first | exact ⟨rfl, e4⟩ | (cases e1; done) | (cases e2; done) | (cases e3; done)⟩
  · have l4 : ((P.length : Int) != 4) = true := by rw [bne_iff_ne]; omega
    have HNO : Hid (∀ X, ltB ⟨N, F⟩ X = true → lightL ⟨N, F⟩ X = bs s → False) := fun X h1 h2 => h4 (HL4.out X h1 h2)
    have z0 := HRZ3.out.cell (i := 0) rfl
    have y0 := HRZ3.out.frozen 0
    have z1 := HRZ3.out.cell (i := 1) rfl
    have y1 := HRZ3.out.frozen 1
    have z2 := HRZ3.out.cell (i := 2) rfl
    have y2 := HRZ3.out.frozen 2
    have z3 := HRZ3.out.cell (i := 3) rfl
    have y3 := HRZ3.out.frozen 3
    have z4 := HRZ3.out.cell (i := 4) rfl
    have y4 := HRZ3.out.frozen 4
    have hfin := (((((HRZ3.out.set 0 (.int .i64 0)).set 1 (.int .i64 0)).set 2 (.slice none 0 0)).set 3 (.int .i64 0)).set 4 (.int .i64 0))
    have k10 := hfin.cell (i := 0) rfl
    have k11 := hfin.cell (i := 1) rfl
    have k12 := hfin.cell (i := 2) rfl
    have k13 := hfin.cell (i := 3) rfl
    have k14 := hfin.cell (i := 4) rfl
    have HFF := Lib.hid (fset (fset (fset (fset (fset HFW3.out hlo (o := 0) (.int .i64 0)) hlo (o := 1) (.int .i64 0)) hlo (o := 2) (.slice none 0 0)) hlo (o := 3) (.int .i64 0)) hlo (o := 4) (.int .i64 0))
    clear hfin
    go_wp2
    refine bodyPost_ret (v := .tuple #[.agg #[.int .i64 0, .int .i64 0, .slice none 0 0, .int .i64 0, .int .i64 0], .bool false]) (by simp [results, Tryz.results33, go_sem, k10, k11, k12, k13, k14]) rfl ?_
    exact ⟨⟨0, ⟨0, none, 0, []⟩, 0, 0⟩, false, rfl, Or.inl ⟨rfl, rfl⟩, by simp, HFF.out, fun X h1 h2 => (HNO.out X h1 h2).elim⟩
end Go.Proofs.YtjhaoonacjebpaaGreatDoor
