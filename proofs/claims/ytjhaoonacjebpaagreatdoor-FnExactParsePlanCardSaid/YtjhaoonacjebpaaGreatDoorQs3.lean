/- Contracts: a route and a light are read, the reference's side. (Printed by gen_qs3.py.) -/
import Derived.Test.YtjhaoonacjebpaaGreatDoorPr2
import Derived.Test.YtjhaoonacjebpaaGreatDoorQs1
namespace Go.Proofs.YtjhaoonacjebpaaGreatDoor
open Go.RowKit Go.PlainAid

theorem strs_row3 {P : List (List UInt8)} (h : P.length = 3) : ∃ x0 x1 x2, P = [x0, x1, x2] := by
  match P, h with
  | [a, b, c], _ => exact ⟨a, b, c, rfl⟩
set_option maxHeartbeats 8000000 in
set_option maxRecDepth 100000 in
theorem l3ReadRoute_any (v : Value) (n : Net) (s : ByteArray) (w : World) (h : NetIn w v n) (hn : netB n = true) (hs : s.size ≤ 4000) : Calls Tryz.prog 62 #[v, .string s] w (OutPr n (bs s) w) := by
  have HNI := Lib.hid h
  obtain ⟨N, F⟩ := n
  obtain ⟨qn, cn, pn, cp, rfl, hN, hF, n1, n2, n3, n4, hsz⟩ := h
  simp only at hN hF n1 n2 n3 hsz
  obtain ⟨W2, hW2, hsz2, hf2, r1, r2⟩ := two_rows w [.slice qn N.length cn, .slice pn F.length cp] [.int .i64 0, .slice none 0 0] 34 54
  obtain ⟨bN, hbN⟩ : ∃ b, b = w.heap.size := ⟨_, rfl⟩
  obtain ⟨bZ, hbZ⟩ : ∃ b, b = w.heap.size + 1 := ⟨_, rfl⟩
  rw [← hbN] at r1
  rw [← hbZ] at r2
  have hlo : w.heap.size ≤ bZ := by omega
  have HSP := Lib.hid (l1Split_any s 46 W2 (by omega))
  have HNS := Lib.hid (hN.keep hf2)
  have HNW := Lib.hid (HNI.out.keep hf2)
  have HF2 := Lib.hid hf2
  have HRN := Lib.hid r1
  have HRZ := Lib.hid r2
  have HW2 := Lib.hid hW2
  have HBN := Lib.hid hbN
  have HBZ := Lib.hid hbZ
  have HNN := Lib.hid hn
  clear hW2 hsz2 hf2 r1 r2 hN hF hsz hbN hbZ hn HNI
  go_enter Tryz.func62, Tryz.ntmps62
  go_upto_region 1 with fail
  rw [← HW2.out, ← HBZ.out, ← HBN.out]
  go_wp2_with fail
  refine (HSP.out).mono ?_
  clear HSP
  rintro e w3 ⟨v3, rfl, ho, hf3⟩
  obtain ⟨P, hP⟩ : ∃ P, P = splitC 46 (bs s) := ⟨_, rfl⟩
  rw [← hP] at ho
  have hp0 : 0 < P.length := by rw [hP]; exact Nat.pos_of_ne_zero fun h => splitC_ne 46 (bs s) (List.eq_nil_of_length_eq_zero h)
  have hp1 : P.length ≤ 4001 := by rw [hP]; have h1 := (splitC_small 46 (bs s)).1; rw [bs_len] at h1; omega
  have HPS : Hid (∀ x ∈ P, (ba x).size ≤ 4000) := fun x hx => by rw [ba_size]; rw [hP] at hx; have h1 := (splitC_small 46 (bs s)).2 x hx; rw [bs_len] at h1; omega
  obtain ⟨gw, cw, rfl, hcell⟩ := strs_row ho hp0
  obtain ⟨x0, hx0⟩ : ∃ x0, P[0]? = some x0 := ⟨P[0], List.getElem?_eq_getElem hp0⟩
  have g0 := hcell 0 x0 hx0
  have HF3 := Lib.hid hf3
  have HCE := Lib.hid hcell
  have HP := Lib.hid hP
  have c0 := (HRN.out.keep hf3).cell (i := 0) rfl
  obtain ⟨i1, hi1⟩ : ∃ i, i = idxL N (ba x0) := ⟨_, rfl⟩
  have HIX : Hid (∀ W, Fresh W2 W → Calls Tryz.prog 81 #[.slice qn N.length cn, .string (ba x0)] W fun e w' => e = .returned (.int .i64 i1) ∧ W = w') := fun W hW => by rw [hi1]; exact l2Find_any qn cn N (ba x0) W (HNS.out.keep hW) (by omega)
  have HST : Hid (∀ R, IsRt ⟨N, F⟩ (bs s) R → i1 = R.1) := fun R hR => by rw [hi1]; exact (rt_start HNN.out (by rw [← hP]; exact hx0) hR).1
  have HRZ3 := Lib.hid (HRZ.out.keep hf3)
  have HFW3 := Lib.hid (fstep HF2.out hf3)
  clear hf3 ho hcell hP hx0 hi1
  go_upto_region 2 with fail
  go_cut [7] (fun z7 wx => ∃ (gb : Nat), z7 = .pointer (some ⟨gb, 0, none⟩) ∧ RowAt wx gb 54 [.int .i64 i1, .slice none 0 0] ∧ Fresh w3 wx ∧ w3.heap.size ≤ gb)
  case first =>
    refine hd_start (n := 8) (S := fun wz => wz.cell? ⟨bN, 0, none⟩ = some (.slice qn N.length cn) ∧ wz.cell? ⟨gw, 0, none⟩ = some (.string (ba x0))) (by kernel_rfl) (by kernel_rfl) ⟨fkeep (fdrew (frefl _)) c0, fkeep (fdrew (frefl _)) g0⟩ (fun hHeld => ?_)
    obtain ⟨Wz, hWz⟩ : ∃ W, W = w3.drew := ⟨_, rfl⟩
    rw [← hWz] at hHeld ⊢
    have f0 : Fresh w3 Wz := by rw [hWz]; exact fdrew (frefl _)
    clear hWz
    refine hd_tk (i := 0) (v := ?_) rfl ?_ ?_
    rotate_left
    · (intro w hSw; (try dsimp only at hSw); go_simp; first | done | with_reducible rfl)
    try simp only [PU]
    refine hd_tk (i := 1) (v := ?_) rfl ?_ ?_
    rotate_left
    · (intro w hSw; (try dsimp only at hSw); go_simp; first | done | with_reducible rfl)
    try simp only [PU]
    refine hd_tk (i := 2) (v := ?_) rfl ?_ ?_
    rotate_left
    · (intro w hSw; (try dsimp only at hSw); go_simp; first | done | with_reducible rfl)
    try simp only [PU]
    refine hd_tk (i := 3) (v := ?_) rfl ?_ ?_
    rotate_left
    · (intro w hSw; (try dsimp only at hSw); go_simp; first | done | with_reducible rfl)
    try simp only [PU]
    refine hd_tk (i := 4) (v := ?_) rfl ?_ ?_
    rotate_left
    · (intro w hSw; (try dsimp only at hSw); go_simp; first | done | with_reducible rfl)
    try simp only [PU]
    refine hd_ready (rs := [5, 7]) (by kernel_rfl) (by simp) ?_
    refine hd_cons (i := 5) rfl (by kernel_rfl) (fun K hK => ?_) ?_
    · skip
      go_simp
      go_at_call 81
      refine (HIX.out _ (fstep HF3.out f0)).mono ?_
      rintro e wk1 ⟨rfl, hww⟩
      have hb1 : Fresh Wz wk1 := by rw [← hww]; exact frefl _
      clear hww
      have fk1 := fstep f0 hb1
      go_wp2_with fail
      refine hK.out _ _ ?_ (fun hHeld => ?_)
      · exact ⟨fkeep fk1 c0, fkeep fk1 g0⟩
      clear hK K
      try simp only [PU]
      refine hd_tk (i := 6) (v := ?_) rfl ?_ ?_
      rotate_left
      · (intro w hSw; (try dsimp only at hSw); go_simp; first | done | with_reducible rfl)
      try simp only [PU]
      refine hd_one (i := 7) rfl (by kernel_rfl) (by kernel_rfl) (fun K hK => ?_)
      go_simp
      obtain ⟨wk2, hwa⟩ : ∃ W, W = wk1.alloc (.cells #[.int .i64 0, .slice none 0 0] 54) := ⟨_, rfl⟩
      obtain ⟨gb, hgb⟩ : ∃ g, g = wk1.heap.size := ⟨_, rfl⟩
      rw [← hwa, ← hgb]
      have hba : Fresh wk1 wk2 := by rw [hwa]; exact fnew (frefl _) _
      have ra : RowAt wk2 gb 54 [.int .i64 0, .slice none 0 0] := by rw [hwa, hgb]; exact RowAt.new _ _ _
      have hga : w3.heap.size ≤ gb := by rw [hgb]; exact fk1.size
      have fk2 := fstep fk1 hba
      clear hwa hgb
      clear hba
      refine hK.out _ _ ?_ (fun hHeld => ?_)
      · exact ⟨fkeep fk2 c0, fkeep fk2 g0⟩
      clear hK K
      try simp only [PU]
      have zc0 := ra.cell (i := 0) rfl
      have uc0 := ra.frozen 0
      have zc1 := ra.cell (i := 1) rfl
      have uc1 := ra.frozen 1
      have fs := fset (fset (fk2) hga (o := 0) (.int .i64 i1)) hga (o := 1) (.slice none 0 0)
      refine hd_done (by kernel_rfl) ?_
      clear hHeld
      simp only [List.drop_succ_cons, List.drop_zero]
      go_wp2_with fail
      go_meet
      have hrow := ((ra.set 0 (.int .i64 i1)).set 1 (.slice none 0 0))
      case rel => exact ⟨gb, rfl, hrow, fs, hga⟩
    · refine hd_cons (i := 7) rfl (by kernel_rfl) (fun K hK => ?_) hd_nil
      go_simp
      obtain ⟨wk3, hwa⟩ : ∃ W, W = Wz.alloc (.cells #[.int .i64 0, .slice none 0 0] 54) := ⟨_, rfl⟩
      obtain ⟨gb, hgb⟩ : ∃ g, g = Wz.heap.size := ⟨_, rfl⟩
      rw [← hwa, ← hgb]
      have hba : Fresh Wz wk3 := by rw [hwa]; exact fnew (frefl _) _
      have ra : RowAt wk3 gb 54 [.int .i64 0, .slice none 0 0] := by rw [hwa, hgb]; exact RowAt.new _ _ _
      have hga : w3.heap.size ≤ gb := by rw [hgb]; exact f0.size
      have fk3 := fstep f0 hba
      clear hwa hgb
      clear hba
      refine hK.out _ _ ?_ (fun hHeld => ?_)
      · exact ⟨fkeep fk3 c0, fkeep fk3 g0⟩
      clear hK K
      try simp only [PU]
      refine hd_one (i := 5) rfl (by kernel_rfl) (by kernel_rfl) (fun K hK => ?_)
      go_simp
      go_at_call 81
      refine (HIX.out _ (fstep HF3.out fk3)).mono ?_
      rintro e wk4 ⟨rfl, hww⟩
      have hb4 : Fresh wk3 wk4 := by rw [← hww]; exact frefl _
      clear hww
      have fk4 := fstep fk3 hb4
      replace ra := ra.keep hb4
      go_wp2_with fail
      refine hK.out _ _ ?_ (fun hHeld => ?_)
      · exact ⟨fkeep fk4 c0, fkeep fk4 g0⟩
      clear hK K
      try simp only [PU]
      refine hd_tk (i := 6) (v := ?_) rfl ?_ ?_
      rotate_left
      · (intro w hSw; (try dsimp only at hSw); go_simp; first | done | with_reducible rfl)
      try simp only [PU]
      have zc0 := ra.cell (i := 0) rfl
      have uc0 := ra.frozen 0
      have zc1 := ra.cell (i := 1) rfl
      have uc1 := ra.frozen 1
      have fs := fset (fset (fk4) hga (o := 0) (.int .i64 i1)) hga (o := 1) (.slice none 0 0)
      refine hd_done (by kernel_rfl) ?_
      clear hHeld
      simp only [List.drop_succ_cons, List.drop_zero]
      go_wp2_with fail
      go_meet
      have hrow := ((ra.set 0 (.int .i64 i1)).set 1 (.slice none 0 0))
      case rel => exact ⟨gb, rfl, hrow, fs, hga⟩
  case rest =>
    obtain ⟨bF, rfl, hrow, hf4, hloF⟩ := hcut
    have HRF5 := Lib.hid hrow
    have HF5 := Lib.hid hf4
    have hZF : bZ < w3.heap.size := HRZ3.out.lt
    clear hrow hf4 c0 g0 HIX
    go_wp2
    go_loopw [8] (fun i wr => ∃ (j : Nat) (V : Value) (L : List Int), 2 * j ≤ P.length ∧ i = .int .i64 (2 * (j : Int) + 1) ∧ L.length = j ∧ RowAt wr bF 54 [.int .i64 i1, V] ∧ wr.ownsRow w3.heap.size 3 1 V L.length (L.map iv) ∧ Hid (∀ R, IsRt ⟨N, F⟩ (bs s) R → L = R.2.take j) ∧ Fresh w3 wr) (fun i _ => P.length + 2 - (intOf i).toNat)
    case atStart => exact ⟨0, .slice none 0 0, [], Nat.zero_le _, rfl, rfl, HRF5.out, World.ownsRow_nil _ _ _ _, Lib.hid (fun R _ => by simp), HF5.out⟩
    case round =>
      obtain ⟨j, V, L, hj, rfl, hLl, hrf, how, HLR, hf⟩ := hrel
      obtain ⟨pV, cV, rfl, hoV, hcV1, hcV2⟩ := owns_cap how
      have HFR := Lib.hid hf
      have HF2R := Lib.hid (fstep HF3.out hf)
      have HFW := Lib.hid (fstep HFW3.out hf)
      have HRF := Lib.hid hrf
      have HOW := Lib.hid how
      have HLL := Lib.hid hLl
      have hL4 : L.length ≤ 1048576 := by omega
      have HRZR := Lib.hid (HRZ3.out.keep hf)
      by_cases hlt : 2 * j + 1 < P.length
      · have hltz : 2 * (j : Int) + 1 < (P.length : Int) := by omega
        have hw1 : IntKind.i64.wrap (2 * (j : Int) + 1 + 2) = 2 * (j : Int) + 1 + 2 := by rw [IntKind.wrap_i64]; omega
        have hi0 : 0 ≤ 2 * (j : Int) + 1 := by omega
        have hi1 : (2 * (j : Int) + 1).toNat = 2 * j + 1 := by omega
        obtain ⟨y, hy⟩ : ∃ y, P[2 * j + 1]? = some y := ⟨P[2 * j + 1], List.getElem?_eq_getElem hlt⟩
        have hcy : wr.cell? ⟨gw, 2 * j + 1, none⟩ = some (.string (ba y)) := fkeep hf (HCE.out _ y hy)
        have HYS : Hid ((ba y).size ≤ 1048576) := by have := HPS.out y (List.mem_of_getElem? hy); exact Lib.hid (by omega)
        have HPI : Hid (∀ R, IsRt ⟨N, F⟩ (bs s) R → ∃ i, numF y = some i ∧ L ++ [i] = R.2.take (j + 1)) := fun R hR => rt_round HNN.out (by rw [← HP.out]; exact hy) hR (HLR.out R hR)
        clear hf how hrf hoV hLl hy
        go_wp2_with fail
        refine (l1Read_any (ba y) _ HYS.out).mono ?_
        rintro e w6 ⟨rfl, hf6⟩
        rw [bs_ba]
        obtain ⟨nn, hnn⟩ : ∃ nn, nn = numF y := ⟨_, rfl⟩
        rw [← hnn] at HPI
        rw [← hnn]
        have HF6 := Lib.hid hf6
        clear hf6 hnn hcy
        cases nn with
        | none =>
          have HNO : Hid (∀ R, ¬ IsRt ⟨N, F⟩ (bs s) R) := fun R hR => by obtain ⟨i, h1, _⟩ := HPI.out R hR; cases h1
          have HRZ6 := Lib.hid (HRZR.out.keep HF6.out)
          have z0 := HRZ6.out.cell (i := 0) rfl
          have z1 := HRZ6.out.cell (i := 1) rfl
          have y0 := HRZ6.out.frozen 0
          have y1 := HRZ6.out.frozen 1
          have hfin := (HRZ6.out.set 0 (.int .i64 0)).set 1 (.slice none 0 0)
          have k0 := hfin.cell (i := 0) rfl
          have k1 := hfin.cell (i := 1) rfl
          have HFF := Lib.hid (fset (fset (fstep HFW.out HF6.out) hlo (o := 0) (.int .i64 0)) hlo (o := 1) (.slice none 0 0))
          clear hfin
          go_wp2
          refine bodyPost_ret (v := .tuple #[.agg #[.int .i64 0, .slice none 0 0], .bool false]) (by simp [results, Tryz.results62, go_sem, k0, k1]) rfl ?_
          exact ⟨0, none, [], 0, false, rfl, Or.inl ⟨rfl, rfl⟩, by simp, HFF.out, fun R hR => (HNO.out R hR).elim⟩
        | some i =>
          have HRF6 := Lib.hid (HRF.out.keep HF6.out)
          have HOW6 := Lib.hid (ownsRow_keep HOW.out HF6.out)
          have HFR6 := Lib.hid (fstep HFR.out HF6.out)
          have f1 := HRF6.out.cell (i := 1) rfl
          go_wp2_with (at_builtin; refine wpList_app_b Tryz.underlying52 infoInt rfl (by decide) (by decide) w3 w6 _ L.length (L.map iv) [iv i] _ rfl (by intro u hu; simp at hu; subst hu; rfl) rfl _ _ rfl rfl HOW6.out rfl rfl hL4 HFR6.out ?_; intro v3 w3' hown3 hf3 hk3; obtain ⟨r3, e3, hv3, _⟩ := owns_cap hown3; subst hv3; have hrn3 := hk3 _ _ _ HRF6.out (Or.inl (by decide)); have z1 := hrn3.frozen 1; have y1 := hrn3.cell (i := 1) rfl)
          go_wp2
          go_roundw
          case rel =>
            refine ⟨j + 1, .slice r3 (L.length + 1) e3, L ++ [i], by omega, by go_num, by simp [HLL.out], hrn3.set 1 _, ?_, fun R hR => ?_, fset hf3 hloF _⟩
            · have := owns_setO (u := .slice r3 (L.length + 1) e3) hown3 hrn3 (by decide) 1
              rw [List.length_append, List.map_append]
              simpa using this
            · obtain ⟨i', h1, h2⟩ := HPI.out R hR
              cases h1
              exact h2
          case measure => simp [intOf]; omega
      · have hltz : ¬ 2 * (j : Int) + 1 < (P.length : Int) := by omega
        have HAL : Hid (∀ R, IsRt ⟨N, F⟩ (bs s) R → R = (i1, L)) := fun R hR => by
          have h1 := HST.out R hR
          have h2 := rt_done HNN.out (by rw [← HP.out]; omega) hR (HLR.out R hR)
          rw [h1, h2]
        have HGD := Lib.hid (l4Good_any _ ⟨N, F⟩ i1 pV cV L wr (HNW.out.keep HF2R.out) hoV.ints hL4)
        rw [HNN.out, Bool.true_and] at HGD
        have n0 := (HRN.out.keep HF2R.out).cell (i := 0) rfl
        have n1 := (HRN.out.keep HF2R.out).cell (i := 1) rfl
        have f0 := hrf.cell (i := 0) rfl
        have f1 := hrf.cell (i := 1) rfl
        have HOV := Lib.hid hoV
        clear hf how hrf hLl hoV
        cases hv : isVis ⟨N, F⟩ i1 L with
        | false =>
          rw [hv] at HGD
          have HNO : Hid (∀ R, ¬ IsRt ⟨N, F⟩ (bs s) R) := fun R hR => by
            have h1 := (route_ne hR (HAL.out R hR)).1
            rw [hv] at h1; cases h1
          clear hv
          go_wp2_with fail
          refine (HGD.out).mono ?_
          clear HGD
          rintro e w6 ⟨rfl, hf6⟩
          have HF6 := Lib.hid hf6
          have HRZ6 := Lib.hid (HRZR.out.keep HF6.out)
          clear hf6 n0 n1 f0 f1
          have z0 := HRZ6.out.cell (i := 0) rfl
          have z1 := HRZ6.out.cell (i := 1) rfl
          have y0 := HRZ6.out.frozen 0
          have y1 := HRZ6.out.frozen 1
          have hfin := (HRZ6.out.set 0 (.int .i64 0)).set 1 (.slice none 0 0)
          have k0 := hfin.cell (i := 0) rfl
          have k1 := hfin.cell (i := 1) rfl
          have HFF := Lib.hid (fset (fset (fstep HFW.out HF6.out) hlo (o := 0) (.int .i64 0)) hlo (o := 1) (.slice none 0 0))
          clear hfin
          go_wp2
          refine bodyPost_ret (v := .tuple #[.agg #[.int .i64 0, .slice none 0 0], .bool false]) (by simp [results, Tryz.results62, go_sem, k0, k1]) rfl ?_
          exact ⟨0, none, [], 0, false, rfl, Or.inl ⟨rfl, rfl⟩, by simp, HFF.out, fun R hR => (HNO.out R hR).elim⟩
        | true =>
          rw [hv] at HGD
          have HRT := Lib.hid (fun W (hW : Fresh wr W) => l3Route_any _ ⟨N, F⟩ i1 pV cV L W (HNW.out.keep (fstep HF2R.out hW)) (HOV.out.keep hW).ints HNN.out hv)
          clear hv
          obtain ⟨t, ht⟩ : ∃ t, t = ba (routeX ⟨N, F⟩ (i1, L)) := ⟨_, rfl⟩
          rw [← ht] at HRT
          by_cases he : t = s
          · have hd := streq he
            clear he ht
            go_wp2_with fail
            refine (HGD.out).mono ?_
            clear HGD
            rintro e w5 ⟨rfl, hf5⟩
            have HF5' := Lib.hid hf5
            replace n0 := fkeep hf5 n0
            replace n1 := fkeep hf5 n1
            replace f0 := fkeep hf5 f0
            replace f1 := fkeep hf5 f1
            clear hf5
            go_wp2_with fail
            refine (HRT.out _ HF5'.out).mono ?_
            clear HRT
            rintro e w6 ⟨rfl, hf6⟩
            have HF6 := Lib.hid (fstep HF5'.out hf6)
            have HRZ6 := Lib.hid (HRZR.out.keep HF6.out)
            replace f0 := fkeep hf6 f0
            replace f1 := fkeep hf6 f1
            have HOV6 := Lib.hid (HOV.out.keep HF6.out)
            have z0 := HRZ6.out.cell (i := 0) rfl
            have z1 := HRZ6.out.cell (i := 1) rfl
            have y0 := HRZ6.out.frozen 0
            have y1 := HRZ6.out.frozen 1
            have hfin := (HRZ6.out.set 0 (.int .i64 i1)).set 1 (.slice pV L.length cV)
            have k0 := hfin.cell (i := 0) rfl
            have k1 := hfin.cell (i := 1) rfl
            have HFF := Lib.hid (fset (fset (fstep HFW.out HF6.out) hlo (o := 0) (.int .i64 i1)) hlo (o := 1) (.slice pV L.length cV))
            clear hfin hf6 n0 n1
            go_wp2
            refine bodyPost_ret (v := .tuple #[.agg #[.int .i64 i1, .slice pV L.length cV], .bool true]) (by simp [results, Tryz.results62, go_sem, k0, k1]) rfl ?_
            exact ⟨i1, pV, L, cV, true, rfl, ((HOV6.out.mono HFW3.out.size).setO HRZ6.out (by decide) _ _).setO (HRZ6.out.set 0 _) (by decide) _ _, hL4, HFF.out, fun R hR => ⟨rfl, HAL.out R hR⟩⟩
          · have hd := strne he
            have HNO : Hid (∀ R, ¬ IsRt ⟨N, F⟩ (bs s) R) := fun R hR => by
              have h1 := (route_ne hR (HAL.out R hR)).2
              rw [← ht, ba_bs] at h1
              exact he h1
            clear he ht
            go_wp2_with fail
            refine (HGD.out).mono ?_
            clear HGD
            rintro e w5 ⟨rfl, hf5⟩
            have HF5' := Lib.hid hf5
            replace n0 := fkeep hf5 n0
            replace n1 := fkeep hf5 n1
            replace f0 := fkeep hf5 f0
            replace f1 := fkeep hf5 f1
            clear hf5
            go_wp2_with fail
            refine (HRT.out _ HF5'.out).mono ?_
            clear HRT
            rintro e w6 ⟨rfl, hf6⟩
            have HF6 := Lib.hid (fstep HF5'.out hf6)
            have HRZ6 := Lib.hid (HRZR.out.keep HF6.out)
            clear hf6 n0 n1 f0 f1
            have z0 := HRZ6.out.cell (i := 0) rfl
            have z1 := HRZ6.out.cell (i := 1) rfl
            have y0 := HRZ6.out.frozen 0
            have y1 := HRZ6.out.frozen 1
            have hfin := (HRZ6.out.set 0 (.int .i64 0)).set 1 (.slice none 0 0)
            have k0 := hfin.cell (i := 0) rfl
            have k1 := hfin.cell (i := 1) rfl
            have HFF := Lib.hid (fset (fset (fstep HFW.out HF6.out) hlo (o := 0) (.int .i64 0)) hlo (o := 1) (.slice none 0 0))
            clear hfin
            go_wp2
            refine bodyPost_ret (v := .tuple #[.agg #[.int .i64 0, .slice none 0 0], .bool false]) (by simp [results, Tryz.results62, go_sem, k0, k1]) rfl ?_
            exact ⟨0, none, [], 0, false, rfl, Or.inl ⟨rfl, rfl⟩, by simp, HFF.out, fun R hR => (HNO.out R hR).elim⟩
set_option maxHeartbeats 8000000 in
set_option maxRecDepth 100000 in
theorem l3ReadLight_any (v : Value) (n : Net) (s : ByteArray) (w : World) (h : NetIn w v n) (hn : netB n = true) (hs : s.size ≤ 4000) : Calls Tryz.prog 29 #[v, .string s] w (OutRl n (fun X => lightR n X = bs s) w) := by
  have HNI := Lib.hid h
  obtain ⟨N, F⟩ := n
  obtain ⟨qn, cn, pn, cp, rfl, hN, hF, n1, n2, n3, n4, hsz⟩ := h
  simp only at hN hF n1 n2 n3 hsz
  obtain ⟨W2, hW2, hsz2, hf2, r1, r2⟩ := two_rows w [.slice qn N.length cn, .slice pn F.length cp] [.int .i64 0, .int .i64 0, .slice none 0 0, .int .i64 0, .int .i64 0] 34 58
  obtain ⟨bN, hbN⟩ : ∃ b, b = w.heap.size := ⟨_, rfl⟩
  obtain ⟨bZ, hbZ⟩ : ∃ b, b = w.heap.size + 1 := ⟨_, rfl⟩
  rw [← hbN] at r1
  rw [← hbZ] at r2
  have hlo : w.heap.size ≤ bZ := by omega
  have HSP := Lib.hid (l1Split_any s 32 W2 (by omega))
  have HNW := Lib.hid (HNI.out.keep hf2)
  have HF2 := Lib.hid hf2
  have HRN := Lib.hid r1
  have HRZ := Lib.hid r2
  have HW2 := Lib.hid hW2
  have HBN := Lib.hid hbN
  have HBZ := Lib.hid hbZ
  have HNN := Lib.hid hn
  clear hW2 hsz2 hf2 r1 r2 hN hF hsz hbN hbZ hn HNI
  go_enter Tryz.func29, Tryz.ntmps29
  go_upto_region 1 with fail
  rw [← HW2.out, ← HBZ.out, ← HBN.out]
  go_wp2_with fail
  refine (HSP.out).mono ?_
  clear HSP
  rintro e w3 ⟨v3, rfl, ho, hf3⟩
  obtain ⟨P, hP⟩ : ∃ P, P = splitC 32 (bs s) := ⟨_, rfl⟩
  rw [← hP] at ho
  have hp0 : 0 < P.length := by rw [hP]; exact Nat.pos_of_ne_zero fun h => splitC_ne 32 (bs s) (List.eq_nil_of_length_eq_zero h)
  obtain ⟨gw, cw, rfl, hcell⟩ := strs_row ho hp0
  have HWS : Hid (∀ x ∈ P, (ba x).size ≤ 4000) := fun x hx => by rw [ba_size]; rw [hP] at hx; have h1 := (splitC_small 32 (bs s)).2 x hx; rw [bs_len] at h1; omega
  have HF3 := Lib.hid hf3
  have HCE := Lib.hid hcell
  have HP := Lib.hid hP
  have HRZ3 := Lib.hid (HRZ.out.keep hf3)
  have HFW3 := Lib.hid (fstep HF2.out hf3)
  have HL4 : Hid (∀ X, ltB ⟨N, F⟩ X = true → lightR ⟨N, F⟩ X = bs s → P.length = 3) := fun X h1 h2 => by rw [hP]; exact lt_len3 HNN.out h1 h2
  clear hf3 ho hcell hP hs
  by_cases h4 : P.length = 3
  · obtain ⟨x1, x2, x3, hx⟩ := strs_row3 h4
    subst hx
    rw [show [x1, x2, x3].length = 3 from rfl]
    have g1 := HCE.out 0 x1 rfl
    have g2 := HCE.out 1 x2 rfl
    have g3 := HCE.out 2 x3 rfl
    have HX1 : Hid ((ba x1).size ≤ 1048576) := by have := HWS.out x1 (by simp); exact Lib.hid (by omega)
    have HX2 : Hid ((ba x2).size ≤ 4000) := HWS.out x2 (by simp)
    have HX3 : Hid ((ba x3).size ≤ 1048576) := by have := HWS.out x3 (by simp); exact Lib.hid (by omega)
    have c0 := (HRN.out.keep HF3.out).cell (i := 0) rfl
    have c1 := (HRN.out.keep HF3.out).cell (i := 1) rfl
    have HLT : Hid (∀ X, ltB ⟨N, F⟩ X = true → lightR ⟨N, F⟩ X = bs s → LtOf ⟨N, F⟩ X x1 x2 x3) := fun X h1 h2 => lt_three HNN.out HP.out.symm h1 h2
    clear h4 HL4 HWS
    go_upto_region 4 with fail
    go_wp2_with fail
    refine (l1Read_any (ba x1) _ HX1.out).mono ?_
    rintro e w4 ⟨rfl, hf4⟩
    rw [bs_ba]
    obtain ⟨nn, hnn⟩ : ∃ nn, nn = numF x1 := ⟨_, rfl⟩
    rw [← hnn]
    obtain ⟨i1, hi1⟩ : ∃ i, i = nn.getD 0 := ⟨_, rfl⟩
    obtain ⟨k1, hk1⟩ : ∃ k, k = nn.isSome := ⟨_, rfl⟩
    rw [← hi1, ← hk1]
    have HA1 : Hid (∀ X, ltB ⟨N, F⟩ X = true → lightR ⟨N, F⟩ X = bs s → k1 = true ∧ i1 = X.1) := fun X h1 h2 => by
      have h3 := (HLT.out X h1 h2).1
      rw [hk1, hi1, hnn, h3]; exact ⟨rfl, rfl⟩
    have HF4 := Lib.hid (fstep HF3.out hf4)
    have HFW4 := Lib.hid (fstep HFW3.out hf4)
    replace c0 := fkeep hf4 c0
    replace c1 := fkeep hf4 c1
    replace g2 := fkeep hf4 g2
    replace g3 := fkeep hf4 g3
    replace HRZ3 := Lib.hid (HRZ3.out.keep hf4)
    clear hf4 g1 hnn hi1 hk1 nn
    go_upto_region 5 with fail
    go_cut [9, 10] (fun z9 z10 wx => ∃ (gb : Nat) (st : Int) (qr : Option Addr) (fl : List Int) (capr : Nat) (k2 : Bool), z9 = .pointer (some ⟨gb, 0, none⟩) ∧ z10 = .bool k2 ∧ RowAt wx gb 54 [.int .i64 st, .slice qr fl.length capr] ∧ Own wx w4.heap.size 3 qr (fl.map iv) ∧ fl.length ≤ 1048576 ∧ Hid (∀ R, IsRt ⟨N, F⟩ x2 R → k2 = true ∧ R = (st, fl)) ∧ Fresh w4 wx ∧ w4.heap.size ≤ gb)
    case first =>
      refine hd_start (n := 10) (S := fun wz => wz.cell? ⟨bN, 0, none⟩ = some (.slice qn N.length cn) ∧ wz.cell? ⟨bN, 1, none⟩ = some (.slice pn F.length cp) ∧ wz.cell? ⟨gw, 1, none⟩ = some (.string (ba x2))) (by kernel_rfl) (by kernel_rfl) ⟨fkeep (fdrew (frefl _)) c0, fkeep (fdrew (frefl _)) c1, fkeep (fdrew (frefl _)) g2⟩ (fun hHeld => ?_)
      obtain ⟨Wz, hWz⟩ : ∃ W, W = w4.drew := ⟨_, rfl⟩
      rw [← hWz] at hHeld ⊢
      have f0 : Fresh w4 Wz := by rw [hWz]; exact fdrew (frefl _)
      clear hWz
      refine hd_tk (i := 0) (v := ?_) rfl ?_ ?_
      rotate_left
      · (intro w hSw; (try dsimp only at hSw); go_simp; first | done | with_reducible rfl)
      try simp only [PU]
      refine hd_tk (i := 1) (v := ?_) rfl ?_ ?_
      rotate_left
      · (intro w hSw; (try dsimp only at hSw); go_simp; first | done | with_reducible rfl)
      try simp only [PU]
      refine hd_tk (i := 2) (v := ?_) rfl ?_ ?_
      rotate_left
      · (intro w hSw; (try dsimp only at hSw); go_simp; first | done | with_reducible rfl)
      try simp only [PU]
      refine hd_tk (i := 3) (v := ?_) rfl ?_ ?_
      rotate_left
      · (intro w hSw; (try dsimp only at hSw); go_simp; first | done | with_reducible rfl)
      try simp only [PU]
      refine hd_ready (rs := [4, 8]) (by kernel_rfl) (by simp) ?_
      refine hd_cons (i := 4) rfl (by kernel_rfl) (fun K hK => ?_) ?_
      · skip
        go_simp
        go_at_call 62
        refine (l3ReadRoute_any _ ⟨N, F⟩ (ba x2) _ (HNW.out.keep (fstep HF4.out f0)) HNN.out HX2.out).mono ?_
        rintro e wk1 ⟨st, qr, fl, capr, k2, rfl, hor, hlf, hb1, hall⟩
        rw [bs_ba] at hall
        have HAL := Lib.hid hall
        replace hor := hor.mono f0.size
        clear hall
        have fk1 := fstep f0 hb1
        go_wp2_with fail
        refine hK.out _ _ ?_ (fun hHeld => ?_)
        · exact ⟨fkeep fk1 c0, fkeep fk1 c1, fkeep fk1 g2⟩
        clear hK K
        try simp only [PU]
        refine hd_tk (i := 5) (v := ?_) rfl ?_ ?_
        rotate_left
        · (intro w hSw; (try dsimp only at hSw); go_simp; first | done | with_reducible rfl)
        try simp only [PU]
        refine hd_tk (i := 6) (v := ?_) rfl ?_ ?_
        rotate_left
        · (intro w hSw; (try dsimp only at hSw); go_simp; first | done | with_reducible rfl)
        try simp only [PU]
        refine hd_tk (i := 7) (v := ?_) rfl ?_ ?_
        rotate_left
        · (intro w hSw; (try dsimp only at hSw); go_simp; first | done | with_reducible rfl)
        try simp only [PU]
        refine hd_one (i := 8) rfl (by kernel_rfl) (by kernel_rfl) (fun K hK => ?_)
        go_simp
        obtain ⟨wk2, hwa⟩ : ∃ W, W = wk1.alloc (.cells #[.int .i64 0, .slice none 0 0] 54) := ⟨_, rfl⟩
        obtain ⟨gb, hgb⟩ : ∃ g, g = wk1.heap.size := ⟨_, rfl⟩
        rw [← hwa, ← hgb]
        have hba : Fresh wk1 wk2 := by rw [hwa]; exact fnew (frefl _) _
        have ra : RowAt wk2 gb 54 [.int .i64 0, .slice none 0 0] := by rw [hwa, hgb]; exact RowAt.new _ _ _
        have hga : w4.heap.size ≤ gb := by rw [hgb]; exact fk1.size
        have fk2 := fstep fk1 hba
        clear hwa hgb
        replace hor := hor.keep hba
        clear hba
        refine hK.out _ _ ?_ (fun hHeld => ?_)
        · exact ⟨fkeep fk2 c0, fkeep fk2 c1, fkeep fk2 g2⟩
        clear hK K
        try simp only [PU]
        have zc0 := ra.cell (i := 0) rfl
        have uc0 := ra.frozen 0
        have zc1 := ra.cell (i := 1) rfl
        have uc1 := ra.frozen 1
        have fs := fset (fset (fk2) hga (o := 0) (.int .i64 st)) hga (o := 1) (.slice qr fl.length capr)
        refine hd_one (i := 9) rfl (by kernel_rfl) (by kernel_rfl) (fun K hK => ?_)
        (go_simp)
        refine hK.out _ _ ?_ (fun hHeld => ?_)
        · exact ⟨fkeep fs c0, fkeep fs c1, fkeep fs g2⟩
        clear hK K
        try simp only [PU]
        refine hd_done (by kernel_rfl) ?_
        clear hHeld
        simp only [List.drop_succ_cons, List.drop_zero]
        go_wp2_with fail
        go_meet
        have hrow := ((ra.set 0 (.int .i64 st)).set 1 (.slice qr fl.length capr))
        case rel => exact ⟨gb, st, qr, fl, capr, k2, rfl, rfl, hrow, (hor.setO ra (by decide) 0 _).setO (ra.set 0 _) (by decide) 1 _, hlf, HAL.out, fs, hga⟩
      · refine hd_cons (i := 8) rfl (by kernel_rfl) (fun K hK => ?_) hd_nil
        go_simp
        obtain ⟨wk3, hwa⟩ : ∃ W, W = Wz.alloc (.cells #[.int .i64 0, .slice none 0 0] 54) := ⟨_, rfl⟩
        obtain ⟨gb, hgb⟩ : ∃ g, g = Wz.heap.size := ⟨_, rfl⟩
        rw [← hwa, ← hgb]
        have hba : Fresh Wz wk3 := by rw [hwa]; exact fnew (frefl _) _
        have ra : RowAt wk3 gb 54 [.int .i64 0, .slice none 0 0] := by rw [hwa, hgb]; exact RowAt.new _ _ _
        have hga : w4.heap.size ≤ gb := by rw [hgb]; exact f0.size
        have fk3 := fstep f0 hba
        clear hwa hgb
        clear hba
        refine hK.out _ _ ?_ (fun hHeld => ?_)
        · exact ⟨fkeep fk3 c0, fkeep fk3 c1, fkeep fk3 g2⟩
        clear hK K
        try simp only [PU]
        refine hd_one (i := 4) rfl (by kernel_rfl) (by kernel_rfl) (fun K hK => ?_)
        go_simp
        go_at_call 62
        refine (l3ReadRoute_any _ ⟨N, F⟩ (ba x2) _ (HNW.out.keep (fstep HF4.out fk3)) HNN.out HX2.out).mono ?_
        rintro e wk4 ⟨st, qr, fl, capr, k2, rfl, hor, hlf, hb4, hall⟩
        rw [bs_ba] at hall
        have HAL := Lib.hid hall
        replace hor := hor.mono fk3.size
        clear hall
        have fk4 := fstep fk3 hb4
        replace ra := ra.keep hb4
        go_wp2_with fail
        refine hK.out _ _ ?_ (fun hHeld => ?_)
        · exact ⟨fkeep fk4 c0, fkeep fk4 c1, fkeep fk4 g2⟩
        clear hK K
        try simp only [PU]
        refine hd_tk (i := 5) (v := ?_) rfl ?_ ?_
        rotate_left
        · (intro w hSw; (try dsimp only at hSw); go_simp; first | done | with_reducible rfl)
        try simp only [PU]
        refine hd_tk (i := 6) (v := ?_) rfl ?_ ?_
        rotate_left
        · (intro w hSw; (try dsimp only at hSw); go_simp; first | done | with_reducible rfl)
        try simp only [PU]
        refine hd_tk (i := 7) (v := ?_) rfl ?_ ?_
        rotate_left
        · (intro w hSw; (try dsimp only at hSw); go_simp; first | done | with_reducible rfl)
        try simp only [PU]
        have zc0 := ra.cell (i := 0) rfl
        have uc0 := ra.frozen 0
        have zc1 := ra.cell (i := 1) rfl
        have uc1 := ra.frozen 1
        have fs := fset (fset (fk4) hga (o := 0) (.int .i64 st)) hga (o := 1) (.slice qr fl.length capr)
        refine hd_one (i := 9) rfl (by kernel_rfl) (by kernel_rfl) (fun K hK => ?_)
        (go_simp)
        refine hK.out _ _ ?_ (fun hHeld => ?_)
        · exact ⟨fkeep fs c0, fkeep fs c1, fkeep fs g2⟩
        clear hK K
        try simp only [PU]
        refine hd_done (by kernel_rfl) ?_
        clear hHeld
        simp only [List.drop_succ_cons, List.drop_zero]
        go_wp2_with fail
        go_meet
        have hrow := ((ra.set 0 (.int .i64 st)).set 1 (.slice qr fl.length capr))
        case rel => exact ⟨gb, st, qr, fl, capr, k2, rfl, rfl, hrow, (hor.setO ra (by decide) 0 _).setO (ra.set 0 _) (by decide) 1 _, hlf, HAL.out, fs, hga⟩
    case rest =>
      obtain ⟨gb, st, qr, fl, capr, k2, rfl, rfl, hrow, hor, hlf, HAL, hf5, hga⟩ := hcut
      have HRB := Lib.hid hrow
      have HOR := Lib.hid hor
      have HF5 := Lib.hid (fstep HF4.out hf5)
      have HFW5 := Lib.hid (fstep HFW4.out hf5)
      replace c0 := fkeep hf5 c0
      replace c1 := fkeep hf5 c1
      replace g3 := fkeep hf5 g3
      replace HRZ3 := Lib.hid (HRZ3.out.keep hf5)
      clear hrow hor hf5 g2
      go_upto_region 6 with fail
      go_wp2_with fail
      refine (l3ReadBlock_any (ba x3) _ HX3.out).mono ?_
      rintro e w6 ⟨rfl, hf6⟩
      rw [bs_ba]
      obtain ⟨nn, hnn⟩ : ∃ nn, nn = pblkF goodB x3 := ⟨_, rfl⟩
      rw [← hnn]
      obtain ⟨bf, hbf⟩ : ∃ i, i = (nn.getD (0, 0)).1 := ⟨_, rfl⟩
      obtain ⟨bc, hbc⟩ : ∃ i, i = (nn.getD (0, 0)).2 := ⟨_, rfl⟩
      obtain ⟨k3, hk3⟩ : ∃ k, k = nn.isSome := ⟨_, rfl⟩
      rw [← hbf, ← hbc, ← hk3]
      have HALL : Hid (∀ X, ltB ⟨N, F⟩ X = true → lightR ⟨N, F⟩ X = bs s → k1 = true ∧ k2 = true ∧ k3 = true ∧ (LL.val ⟨i1, ⟨st, qr, capr, fl⟩, bf, bc⟩ : LtV) = X) := fun X h1 h2 => by
        obtain ⟨e1, e2⟩ := HA1.out X h1 h2
        obtain ⟨_, e3, e4⟩ := HLT.out X h1 h2
        obtain ⟨e5, e6⟩ := HAL.out _ e3
        refine ⟨e1, e5, by rw [hk3, hnn, e4]; rfl, ?_⟩
        have e7 : (pblkF goodB x3).getD (0, 0) = X.2.2 := by rw [e4]; rfl
        show (i1, (st, fl), (bf, bc)) = X
        rw [hbf, hbc, hnn, e7, e2, ← e6]
      obtain ⟨gk, hgk⟩ : ∃ g, g = w6.heap.size := ⟨_, rfl⟩
      obtain ⟨W7, hW7⟩ : ∃ W, W = w6.alloc (.cells #[.int .i64 bf, .int .i64 bc] 56) := ⟨_, rfl⟩
      have hf7 : Fresh w6 W7 := by rw [hW7]; exact fnew (frefl _) _
      have HRK : Hid (RowAt W7 gk 56 [.int .i64 bf, .int .i64 bc]) := by show RowAt _ _ _ _; rw [hW7, hgk]; exact RowAt.new _ _ _
      have hf67 := fstep hf6 hf7
      have HFW7 := Lib.hid (fstep HFW5.out hf67)
      have HF7 := Lib.hid (fstep HF5.out hf67)
      have HRB7 := Lib.hid (HRB.out.keep hf67)
      have HOR7 := Lib.hid (HOR.out.keep hf67)
      have HRZ7 := Lib.hid (HRZ3.out.keep hf67)
      replace c0 := fkeep hf67 c0
      replace c1 := fkeep hf67 c1
      have HW7 := Lib.hid hW7
      have HGK := Lib.hid hgk
      clear hf6 hf7 hf67 hnn hbf hbc hk3 nn g3 hW7 hgk
      go_upto_region 7 with fail
      rw [← HW7.out, ← HGK.out]
      have d0 := HRB7.out.cell (i := 0) rfl
      have d1 := HRB7.out.cell (i := 1) rfl
      have e0 := HRK.out.cell (i := 0) rfl
      have e1 := HRK.out.cell (i := 1) rfl
      obtain ⟨gx, hgx⟩ : ∃ g, g = W7.heap.size := ⟨_, rfl⟩
      obtain ⟨W8, hW8⟩ : ∃ W, W = W7.alloc (.cells #[.int .i64 i1, .int .i64 st, .slice qr fl.length capr, .int .i64 bf, .int .i64 bc] 58) := ⟨_, rfl⟩
      have hf8 : Fresh W7 W8 := by rw [hW8]; exact fnew (frefl _) _
      have HRX : Hid (RowAt W8 gx 58 [.int .i64 i1, .int .i64 st, .slice qr fl.length capr, .int .i64 bf, .int .i64 bc]) := by show RowAt _ _ _ _; rw [hW8, hgx]; exact RowAt.new _ _ _
      have HFW8 := Lib.hid (fstep HFW7.out hf8)
      have HF8 := Lib.hid (fstep HF7.out hf8)
      have HOR8 := Lib.hid (HOR7.out.keep hf8)
      have HRZ8 := Lib.hid (HRZ7.out.keep hf8)
      have HW8 := Lib.hid hW8
      have HGX := Lib.hid hgx
      have hb0 : bZ < gx := by have := (HRZ7.out).lt; omega
      have C0 := fkeep hf8 c0
      have C1 := fkeep hf8 c1
      clear hf8 hW8 hgx
      go_upto_region 8 with fail
      rw [← HW8.out, ← HGX.out]
      clear d0 d1 e0 e1 c0 c1 HRB7 HRK HRB HW7 HW8
      cases k1 with
      | false =>
        have HNO : Hid (∀ X, ltB ⟨N, F⟩ X = true → lightR ⟨N, F⟩ X = bs s → False) := fun X h1 h2 => by obtain ⟨e1, e2, e3, e4⟩ := HALL.out X h1 h2; first | (cases e1; done) | (cases e2; done) | (cases e3; done)
        have z0 := HRZ8.out.cell (i := 0) rfl
        have y0 := HRZ8.out.frozen 0
        have z1 := HRZ8.out.cell (i := 1) rfl
        have y1 := HRZ8.out.frozen 1
        have z2 := HRZ8.out.cell (i := 2) rfl
        have y2 := HRZ8.out.frozen 2
        have z3 := HRZ8.out.cell (i := 3) rfl
        have y3 := HRZ8.out.frozen 3
        have z4 := HRZ8.out.cell (i := 4) rfl
        have y4 := HRZ8.out.frozen 4
        have hfin := (((((HRZ8.out.set 0 (.int .i64 0)).set 1 (.int .i64 0)).set 2 (.slice none 0 0)).set 3 (.int .i64 0)).set 4 (.int .i64 0))
        have k10 := hfin.cell (i := 0) rfl
        have k11 := hfin.cell (i := 1) rfl
        have k12 := hfin.cell (i := 2) rfl
        have k13 := hfin.cell (i := 3) rfl
        have k14 := hfin.cell (i := 4) rfl
        have HFF := Lib.hid (fset (fset (fset (fset (fset HFW8.out hlo (o := 0) (.int .i64 0)) hlo (o := 1) (.int .i64 0)) hlo (o := 2) (.slice none 0 0)) hlo (o := 3) (.int .i64 0)) hlo (o := 4) (.int .i64 0))
        clear hfin
        go_wp2
        refine bodyPost_ret (v := .tuple #[.agg #[.int .i64 0, .int .i64 0, .slice none 0 0, .int .i64 0, .int .i64 0], .bool false]) (by simp [results, Tryz.results29, go_sem, k10, k11, k12, k13, k14]) rfl ?_
        exact ⟨⟨0, ⟨0, none, 0, []⟩, 0, 0⟩, false, rfl, Or.inl ⟨rfl, rfl⟩, by simp, HFF.out, fun X h1 h2 => (HNO.out X h1 h2).elim⟩
      | true =>
        cases k2 with
        | false =>
          have HNO : Hid (∀ X, ltB ⟨N, F⟩ X = true → lightR ⟨N, F⟩ X = bs s → False) := fun X h1 h2 => by obtain ⟨e1, e2, e3, e4⟩ := HALL.out X h1 h2; first | (cases e1; done) | (cases e2; done) | (cases e3; done)
          have z0 := HRZ8.out.cell (i := 0) rfl
          have y0 := HRZ8.out.frozen 0
          have z1 := HRZ8.out.cell (i := 1) rfl
          have y1 := HRZ8.out.frozen 1
          have z2 := HRZ8.out.cell (i := 2) rfl
          have y2 := HRZ8.out.frozen 2
          have z3 := HRZ8.out.cell (i := 3) rfl
          have y3 := HRZ8.out.frozen 3
          have z4 := HRZ8.out.cell (i := 4) rfl
          have y4 := HRZ8.out.frozen 4
          have hfin := (((((HRZ8.out.set 0 (.int .i64 0)).set 1 (.int .i64 0)).set 2 (.slice none 0 0)).set 3 (.int .i64 0)).set 4 (.int .i64 0))
          have k10 := hfin.cell (i := 0) rfl
          have k11 := hfin.cell (i := 1) rfl
          have k12 := hfin.cell (i := 2) rfl
          have k13 := hfin.cell (i := 3) rfl
          have k14 := hfin.cell (i := 4) rfl
          have HFF := Lib.hid (fset (fset (fset (fset (fset HFW8.out hlo (o := 0) (.int .i64 0)) hlo (o := 1) (.int .i64 0)) hlo (o := 2) (.slice none 0 0)) hlo (o := 3) (.int .i64 0)) hlo (o := 4) (.int .i64 0))
          clear hfin
          go_wp2
          refine bodyPost_ret (v := .tuple #[.agg #[.int .i64 0, .int .i64 0, .slice none 0 0, .int .i64 0, .int .i64 0], .bool false]) (by simp [results, Tryz.results29, go_sem, k10, k11, k12, k13, k14]) rfl ?_
          exact ⟨⟨0, ⟨0, none, 0, []⟩, 0, 0⟩, false, rfl, Or.inl ⟨rfl, rfl⟩, by simp, HFF.out, fun X h1 h2 => (HNO.out X h1 h2).elim⟩
        | true =>
          cases k3 with
          | false =>
            have HNO : Hid (∀ X, ltB ⟨N, F⟩ X = true → lightR ⟨N, F⟩ X = bs s → False) := fun X h1 h2 => by obtain ⟨e1, e2, e3, e4⟩ := HALL.out X h1 h2; first | (cases e1; done) | (cases e2; done) | (cases e3; done)
            have z0 := HRZ8.out.cell (i := 0) rfl
            have y0 := HRZ8.out.frozen 0
            have z1 := HRZ8.out.cell (i := 1) rfl
            have y1 := HRZ8.out.frozen 1
            have z2 := HRZ8.out.cell (i := 2) rfl
            have y2 := HRZ8.out.frozen 2
            have z3 := HRZ8.out.cell (i := 3) rfl
            have y3 := HRZ8.out.frozen 3
            have z4 := HRZ8.out.cell (i := 4) rfl
            have y4 := HRZ8.out.frozen 4
            have hfin := (((((HRZ8.out.set 0 (.int .i64 0)).set 1 (.int .i64 0)).set 2 (.slice none 0 0)).set 3 (.int .i64 0)).set 4 (.int .i64 0))
            have k10 := hfin.cell (i := 0) rfl
            have k11 := hfin.cell (i := 1) rfl
            have k12 := hfin.cell (i := 2) rfl
            have k13 := hfin.cell (i := 3) rfl
            have k14 := hfin.cell (i := 4) rfl
            have HFF := Lib.hid (fset (fset (fset (fset (fset HFW8.out hlo (o := 0) (.int .i64 0)) hlo (o := 1) (.int .i64 0)) hlo (o := 2) (.slice none 0 0)) hlo (o := 3) (.int .i64 0)) hlo (o := 4) (.int .i64 0))
            clear hfin
            go_wp2
            refine bodyPost_ret (v := .tuple #[.agg #[.int .i64 0, .int .i64 0, .slice none 0 0, .int .i64 0, .int .i64 0], .bool false]) (by simp [results, Tryz.results29, go_sem, k10, k11, k12, k13, k14]) rfl ?_
            exact ⟨⟨0, ⟨0, none, 0, []⟩, 0, 0⟩, false, rfl, Or.inl ⟨rfl, rfl⟩, by simp, HFF.out, fun X h1 h2 => (HNO.out X h1 h2).elim⟩
          | true =>
            have l0 := HRX.out.cell (i := 0) rfl
            have l1 := HRX.out.cell (i := 1) rfl
            have l2 := HRX.out.cell (i := 2) rfl
            have l3 := HRX.out.cell (i := 3) rfl
            have l4 := HRX.out.cell (i := 4) rfl
            go_wp2_with fail
            refine (l9Light_any _ ⟨N, F⟩ ⟨i1, ⟨st, qr, capr, fl⟩, bf, bc⟩ _ (HNW.out.keep HF8.out) HNN.out HOR8.out.ints hlf).mono ?_
            rintro e w9 ⟨rfl, hf9⟩
            obtain ⟨kg, hkg⟩ : ∃ k, k = ltB ⟨N, F⟩ (LL.val ⟨i1, ⟨st, qr, capr, fl⟩, bf, bc⟩) := ⟨_, rfl⟩
            rw [← hkg]
            have HKG := Lib.hid hkg
            have HFW9 := Lib.hid (fstep HFW8.out hf9)
            have HOR9 := Lib.hid (HOR8.out.keep hf9)
            have HRZ9 := Lib.hid (HRZ8.out.keep hf9)
            replace HRX := Lib.hid (HRX.out.keep hf9)
            clear hf9 hkg l0 l1 l2 l3 l4 C0 C1
            cases kg with
            | false =>
              have HNO : Hid (∀ X, ltB ⟨N, F⟩ X = true → lightR ⟨N, F⟩ X = bs s → False) := fun X h1 h2 => by
                obtain ⟨_, _, _, e4⟩ := HALL.out X h1 h2
                have h5 := HKG.out
                rw [e4, h1] at h5; cases h5
              have z0 := HRZ9.out.cell (i := 0) rfl
              have y0 := HRZ9.out.frozen 0
              have z1 := HRZ9.out.cell (i := 1) rfl
              have y1 := HRZ9.out.frozen 1
              have z2 := HRZ9.out.cell (i := 2) rfl
              have y2 := HRZ9.out.frozen 2
              have z3 := HRZ9.out.cell (i := 3) rfl
              have y3 := HRZ9.out.frozen 3
              have z4 := HRZ9.out.cell (i := 4) rfl
              have y4 := HRZ9.out.frozen 4
              have hfin := (((((HRZ9.out.set 0 (.int .i64 0)).set 1 (.int .i64 0)).set 2 (.slice none 0 0)).set 3 (.int .i64 0)).set 4 (.int .i64 0))
              have k10 := hfin.cell (i := 0) rfl
              have k11 := hfin.cell (i := 1) rfl
              have k12 := hfin.cell (i := 2) rfl
              have k13 := hfin.cell (i := 3) rfl
              have k14 := hfin.cell (i := 4) rfl
              have HFF := Lib.hid (fset (fset (fset (fset (fset HFW9.out hlo (o := 0) (.int .i64 0)) hlo (o := 1) (.int .i64 0)) hlo (o := 2) (.slice none 0 0)) hlo (o := 3) (.int .i64 0)) hlo (o := 4) (.int .i64 0))
              clear hfin
              go_wp2
              refine bodyPost_ret (v := .tuple #[.agg #[.int .i64 0, .int .i64 0, .slice none 0 0, .int .i64 0, .int .i64 0], .bool false]) (by simp [results, Tryz.results29, go_sem, k10, k11, k12, k13, k14]) rfl ?_
              exact ⟨⟨0, ⟨0, none, 0, []⟩, 0, 0⟩, false, rfl, Or.inl ⟨rfl, rfl⟩, by simp, HFF.out, fun X h1 h2 => (HNO.out X h1 h2).elim⟩
            | true =>
              have l0 := HRX.out.cell (i := 0) rfl
              have l1 := HRX.out.cell (i := 1) rfl
              have l2 := HRX.out.cell (i := 2) rfl
              have l3 := HRX.out.cell (i := 3) rfl
              have l4 := HRX.out.cell (i := 4) rfl
              have z0 := HRZ9.out.cell (i := 0) rfl
              have y0 := HRZ9.out.frozen 0
              have z1 := HRZ9.out.cell (i := 1) rfl
              have y1 := HRZ9.out.frozen 1
              have z2 := HRZ9.out.cell (i := 2) rfl
              have y2 := HRZ9.out.frozen 2
              have z3 := HRZ9.out.cell (i := 3) rfl
              have y3 := HRZ9.out.frozen 3
              have z4 := HRZ9.out.cell (i := 4) rfl
              have y4 := HRZ9.out.frozen 4
              have hfin := (((((HRZ9.out.set 0 (.int .i64 i1)).set 1 (.int .i64 st)).set 2 (.slice qr fl.length capr)).set 3 (.int .i64 bf)).set 4 (.int .i64 bc))
              have k10 := hfin.cell (i := 0) rfl
              have k11 := hfin.cell (i := 1) rfl
              have k12 := hfin.cell (i := 2) rfl
              have k13 := hfin.cell (i := 3) rfl
              have k14 := hfin.cell (i := 4) rfl
              have HFF := Lib.hid (fset (fset (fset (fset (fset HFW9.out hlo (o := 0) (.int .i64 i1)) hlo (o := 1) (.int .i64 st)) hlo (o := 2) (.slice qr fl.length capr)) hlo (o := 3) (.int .i64 bf)) hlo (o := 4) (.int .i64 bc))
              clear hfin
              go_wp2
              refine bodyPost_ret (v := .tuple #[.agg #[.int .i64 i1, .int .i64 st, .slice qr fl.length capr, .int .i64 bf, .int .i64 bc], .bool true]) (by simp [results, Tryz.results29, go_sem, k10, k11, k12, k13, k14]) rfl ?_
              exact ⟨⟨i1, ⟨st, qr, capr, fl⟩, bf, bc⟩, true, rfl, ((((((HOR9.out.mono HFW4.out.size).setO HRZ9.out (by decide) _ _).setO (HRZ9.out.set 0 _) (by decide) _ _).setO ((HRZ9.out.set 0 _).set 1 _) (by decide) _ _).setO (((HRZ9.out.set 0 _).set 1 _).set 2 _) (by decide) _ _).setO ((((HRZ9.out.set 0 _).set 1 _).set 2 _).set 3 _) (by decide) _ _), hlf, HFF.out, fun X h1 h2 => ⟨rfl, (HALL.out X h1 h2).2.2.2⟩⟩
  · have l4 : ((P.length : Int) != 3) = true := by rw [bne_iff_ne]; omega
    have HNO : Hid (∀ X, ltB ⟨N, F⟩ X = true → lightR ⟨N, F⟩ X = bs s → False) := fun X h1 h2 => h4 (HL4.out X h1 h2)
    have z0 := HRZ3.out.cell (i := 0) rfl
    have y0 := HRZ3.out.frozen 0
    have z1 := HRZ3.out.cell (i := 1) rfl
    have y1 := HRZ3.out.frozen 1
    have z2 := HRZ3.out.cell (i := 2) rfl
    have y2 := HRZ3.out.frozen 2
    have z3 := HRZ3.out.cell (i := 3) rfl
    have y3 := HRZ3.out.frozen 3
    have z4 := HRZ3.out.cell (i := 4) rfl
    have y4 := HRZ3.out.frozen 4
    have hfin := (((((HRZ3.out.set 0 (.int .i64 0)).set 1 (.int .i64 0)).set 2 (.slice none 0 0)).set 3 (.int .i64 0)).set 4 (.int .i64 0))
    have k10 := hfin.cell (i := 0) rfl
    have k11 := hfin.cell (i := 1) rfl
    have k12 := hfin.cell (i := 2) rfl
    have k13 := hfin.cell (i := 3) rfl
    have k14 := hfin.cell (i := 4) rfl
    have HFF := Lib.hid (fset (fset (fset (fset (fset HFW3.out hlo (o := 0) (.int .i64 0)) hlo (o := 1) (.int .i64 0)) hlo (o := 2) (.slice none 0 0)) hlo (o := 3) (.int .i64 0)) hlo (o := 4) (.int .i64 0))
    clear hfin
    go_wp2
    refine bodyPost_ret (v := .tuple #[.agg #[.int .i64 0, .int .i64 0, .slice none 0 0, .int .i64 0, .int .i64 0], .bool false]) (by simp [results, Tryz.results29, go_sem, k10, k11, k12, k13, k14]) rfl ?_
    exact ⟨⟨0, ⟨0, none, 0, []⟩, 0, 0⟩, false, rfl, Or.inl ⟨rfl, rfl⟩, by simp, HFF.out, fun X h1 h2 => (HNO.out X h1 h2).elim⟩
end Go.Proofs.YtjhaoonacjebpaaGreatDoor
