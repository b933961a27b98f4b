/- Contracts: a route's text is read, the program's side. -/
import Derived.Test.YtjhaoonacjebpaaGreatDoorVr
import Derived.Test.YtjhaoonacjebpaaGreatDoorPn
namespace Go.Proofs.YtjhaoonacjebpaaGreatDoor
open Go.RowKit Go.PlainAid

/-- A route is handed back, and whether the text could be read: the right one where the text is a valid route's. -/
def OutPr (n : Net) (s : List UInt8) (w : World) (e : Ending) (w' : World) : Prop := ∃ (st : Int) (q : Option Addr) (fs : List Int) (cap : Nat) (k : Bool), e = .returned (.tuple #[.agg #[.int .i64 st, .slice q fs.length cap], .bool k]) ∧ Own w' w.heap.size 3 q (fs.map iv) ∧ fs.length ≤ 1048576 ∧ Fresh w w' ∧ ∀ R, IsRt n s R → k = true ∧ R = (st, fs)
theorem route_ne {n : Net} {s : List UInt8} {R : Int × List Int} {st : Int} {L : List Int} (h : IsRt n s R) (h1 : R = (st, L)) : isVis n st L = true ∧ ba (routeX n (st, L)) = ba s := by
  subst h1
  exact ⟨h.1, by rw [h.2]⟩
set_option maxHeartbeats 8000000 in
set_option maxRecDepth 100000 in
theorem parseRoute_any (v : Value) (n : Net) (s : ByteArray) (w : World) (h : NetIn w v n) (hn : netB n = true) (hs : s.size ≤ 4000) (hT : TabE w) (hS : SynE w) (hM : MaxE w) : Calls Tryz.prog 70 #[v, .string s] w (OutPr n (bs s) w) := by
  have HNI := Lib.hid h
  obtain ⟨N, F⟩ := n
  obtain ⟨qn, cn, pn, cp, rfl, hN, hF, n1, n2, n3, n4, hsz⟩ := h
  simp only at hN hF n1 n2 n3 hsz
  obtain ⟨W2, hW2, hsz2, hf2, r1, r2⟩ := two_rows w [.slice qn N.length cn, .slice pn F.length cp] [.int .i64 0, .slice none 0 0] 34 54
  obtain ⟨bN, hbN⟩ : ∃ b, b = w.heap.size := ⟨_, rfl⟩
  obtain ⟨bZ, hbZ⟩ : ∃ b, b = w.heap.size + 1 := ⟨_, rfl⟩
  rw [← hbN] at r1
  rw [← hbZ] at r2
  have hlo : w.heap.size ≤ bZ := by omega
  have HSP := Lib.hid (split_any s 46 W2 (by omega) (hM.keep hf2))
  have HNS := Lib.hid (hN.keep hf2)
  have HNW := Lib.hid (HNI.out.keep hf2)
  have HT := Lib.hid (hT.keep hf2)
  have HS := Lib.hid (hS.keep hf2)
  have HF2 := Lib.hid hf2
  have HRN := Lib.hid r1
  have HRZ := Lib.hid r2
  have HW2 := Lib.hid hW2
  have HBN := Lib.hid hbN
  have HBZ := Lib.hid hbZ
  have HNN := Lib.hid hn
  have hz4 : ¬ (4000 : Int) < (s.size : Int) := by omega
  clear hW2 hsz2 hf2 r1 r2 hN hF hsz hT hS hM hbN hbZ hn HNI
  go_enter Tryz.func70, Tryz.ntmps70
  go_upto_region 1 with fail
  rw [← HW2.out, ← HBZ.out, ← HBN.out]
  go_wp2_with fail
  refine (HSP.out).mono ?_
  clear HSP
  rintro e w3 ⟨v3, rfl, ho, hf3⟩
  obtain ⟨P, hP⟩ : ∃ P, P = splitC 46 (bs s) := ⟨_, rfl⟩
  rw [← hP] at ho
  have hp0 : 0 < P.length := by rw [hP]; exact Nat.pos_of_ne_zero fun h => splitC_ne 46 (bs s) (List.eq_nil_of_length_eq_zero h)
  have hp1 : P.length ≤ 4001 := by rw [hP]; have h1 := (splitC_small 46 (bs s)).1; rw [bs_len] at h1; omega
  obtain ⟨gw, cw, rfl, hcell⟩ := strs_row ho hp0
  obtain ⟨x0, hx0⟩ : ∃ x0, P[0]? = some x0 := ⟨P[0], List.getElem?_eq_getElem hp0⟩
  have g0 := hcell 0 x0 hx0
  have HX0 := Lib.hid hx0
  have HF3 := Lib.hid hf3
  have HCE := Lib.hid hcell
  have HP := Lib.hid hP
  have c0 := (HRN.out.keep hf3).cell (i := 0) rfl
  have HIX : Hid (∀ (x : ByteArray) W, Fresh W2 W → Calls Tryz.prog 113 #[.slice qn N.length cn, .string x] W (OutIdx N x W)) := fun x W hW => indexOf_any qn cn N x W (HNS.out.keep hW) n1
  clear hf3 ho hcell hP hx0
  go_upto_region 2 with fail
  have HSS : Fresh w3 w3 ∧ w3.cell? ⟨bN, 0, none⟩ = some (.slice qn N.length cn) ∧ w3.cell? ⟨gw, 0, none⟩ = some (.string (ba x0)) := ⟨frefl _, c0, g0⟩
  go_region_held3 (fun w' => Fresh w3 w' ∧ w'.cell? ⟨bN, 0, none⟩ = some (.slice qn N.length cn) ∧ w'.cell? ⟨gw, 0, none⟩ = some (.string (ba x0)))
    (first | assumption | exact keepcX (by assumption) (by assumption) | exact keepcX (by assumption) (fdrew (frefl _)) | exact keepcX (by assumption) (frefl _))
    ((go_at_call 113; refine (HIX.out _ _ (fstep HF3.out (And.left (by assumption)))).mono ?_; rintro e w4 ⟨i1, b1, rfl, hbb, -, -, p1, q1⟩))
  have hf4 : Fresh w3 w4 := fstep (fdrew (frefl _)) hbb
  have HF4 := Lib.hid (fstep HF3.out hf4)
  have HF34 := Lib.hid hf4
  have HST : Hid (∀ R, IsRt ⟨N, F⟩ (bs s) R → b1 = true ∧ i1 = R.1) := fun R hR => by
    obtain ⟨e1, e2⟩ := rt_start HNN.out (by rw [← HP.out]; exact HX0.out) hR
    exact idx_ok p1 q1 e1 e2
  clear hbb HSS g0 c0 p1 q1 HIX HNS hf4
  cases b1 with
  | false =>
    have HNO : Hid (∀ R, ¬ IsRt ⟨N, F⟩ (bs s) R) := fun R hR => by have := (HST.out R hR).1; cases this
    have HRZ4 := Lib.hid (HRZ.out.keep HF4.out)
    have z0 := HRZ4.out.cell (i := 0) rfl
    have z1 := HRZ4.out.cell (i := 1) rfl
    have y0 := HRZ4.out.frozen 0
    have y1 := HRZ4.out.frozen 1
    have hfin := (HRZ4.out.set 0 (.int .i64 0)).set 1 (.slice none 0 0)
    have k0 := hfin.cell (i := 0) rfl
    have k1 := hfin.cell (i := 1) rfl
    have HFF := Lib.hid (fset (fset (fstep HF2.out HF4.out) hlo (o := 0) (.int .i64 0)) hlo (o := 1) (.slice none 0 0))
    clear hfin
    go_wp2
    refine bodyPost_ret (v := .tuple #[.agg #[.int .i64 0, .slice none 0 0], .bool false]) (by simp [results, Tryz.results70, go_sem, k0, k1]) rfl ?_
    exact ⟨0, none, [], 0, false, rfl, Or.inl ⟨rfl, rfl⟩, by simp, HFF.out, fun R hR => (HNO.out R hR).elim⟩
  | true =>
    obtain ⟨bF, hbF⟩ : ∃ b, b = w4.heap.size := ⟨_, rfl⟩
    obtain ⟨W5, hW5⟩ : ∃ W, W = w4.alloc (.cells #[.int .i64 i1, .slice none 0 0] 54) := ⟨_, rfl⟩
    have hf5 : Fresh w4 W5 := by rw [hW5]; exact fnew (frefl _) _
    have HRF5 : Hid (RowAt W5 bF 54 [.int .i64 i1, .slice none 0 0]) := by show RowAt _ _ _ _; rw [hW5, hbF]; exact RowAt.new _ _ _
    have hloF : w4.heap.size ≤ bF := by omega
    have HF5 := Lib.hid hf5
    have HW5 := Lib.hid hW5
    have HBF := Lib.hid hbF
    have hZF : bZ < w4.heap.size := (HRZ.out.keep HF4.out).lt
    have HFW4 := Lib.hid (fstep HF2.out HF4.out)
    clear hf5 hW5 hbF
    go_upto_region 6 with fail
    rw [← HW5.out, ← HBF.out]
    go_wp2
    go_loopw [10] (fun i wr => ∃ (j : Nat) (V : Value) (L : List Int), 2 * j ≤ P.length ∧ i = .int .i64 (2 * (j : Int) + 1) ∧ L.length = j ∧ RowAt wr bF 54 [.int .i64 i1, V] ∧ wr.ownsRow w4.heap.size 3 1 V L.length (L.map iv) ∧ Hid (∀ R, IsRt ⟨N, F⟩ (bs s) R → L = R.2.take j) ∧ Fresh w4 wr) (fun i _ => P.length + 2 - (intOf i).toNat)
    case atStart => exact ⟨0, .slice none 0 0, [], Nat.zero_le _, rfl, rfl, HRF5.out, World.ownsRow_nil _ _ _ _, Lib.hid (fun R _ => by simp), HF5.out⟩
    case round =>
      obtain ⟨j, V, L, hj, rfl, hLl, hrf, how, HLR, hf⟩ := hrel
      obtain ⟨pV, cV, rfl, hoV, hcV1, hcV2⟩ := owns_cap how
      have HFR := Lib.hid hf
      have HF2R := Lib.hid (fstep HF4.out hf)
      have HFW := Lib.hid (fstep HFW4.out hf)
      have HRF := Lib.hid hrf
      have HOW := Lib.hid how
      have HLL := Lib.hid hLl
      have hL4 : L.length ≤ 1048576 := by omega
      have HRZR := Lib.hid (HRZ.out.keep HF2R.out)
      by_cases hlt : 2 * j + 1 < P.length
      · have hltz : 2 * (j : Int) + 1 < (P.length : Int) := by omega
        have hw1 : IntKind.i64.wrap (2 * (j : Int) + 1 + 2) = 2 * (j : Int) + 1 + 2 := by rw [IntKind.wrap_i64]; omega
        have hi0 : 0 ≤ 2 * (j : Int) + 1 := by omega
        have hi1 : (2 * (j : Int) + 1).toNat = 2 * j + 1 := by omega
        obtain ⟨y, hy⟩ : ∃ y, P[2 * j + 1]? = some y := ⟨P[2 * j + 1], List.getElem?_eq_getElem hlt⟩
        have hcy : wr.cell? ⟨gw, 2 * j + 1, none⟩ = some (.string (ba y)) := fkeep (fstep HF34.out hf) (HCE.out _ y hy)
        have HPI : Hid (∀ R, IsRt ⟨N, F⟩ (bs s) R → ∃ i, numF y = some i ∧ L ++ [i] = R.2.take (j + 1)) := fun R hR => rt_round HNN.out (by rw [← HP.out]; exact hy) hR (HLR.out R hR)
        clear hf how hrf hoV hLl hy
        go_wp2_with fail
        refine (parseInt_any (ba y) _ (HT.out.keep HF2R.out) (HS.out.keep HF2R.out)).mono ?_
        rintro e w6 ⟨rfl, hf6⟩
        rw [bs_ba]
        obtain ⟨nn, hnn⟩ : ∃ nn, nn = numF y := ⟨_, rfl⟩
        rw [← hnn] at HPI
        rw [← hnn]
        have HF6 := Lib.hid hf6
        clear hf6 hnn hcy
        cases nn with
        | none =>
          have HNO : Hid (∀ R, ¬ IsRt ⟨N, F⟩ (bs s) R) := fun R hR => by obtain ⟨i, h1, _⟩ := HPI.out R hR; cases h1
          have HRZ6 := Lib.hid (HRZR.out.keep HF6.out)
          have z0 := HRZ6.out.cell (i := 0) rfl
          have z1 := HRZ6.out.cell (i := 1) rfl
          have y0 := HRZ6.out.frozen 0
          have y1 := HRZ6.out.frozen 1
          have hfin := (HRZ6.out.set 0 (.int .i64 0)).set 1 (.slice none 0 0)
          have k0 := hfin.cell (i := 0) rfl
          have k1 := hfin.cell (i := 1) rfl
          have HFF := Lib.hid (fset (fset (fstep HFW.out HF6.out) hlo (o := 0) (.int .i64 0)) hlo (o := 1) (.slice none 0 0))
          clear hfin
          go_wp2
          refine bodyPost_ret (v := .tuple #[.agg #[.int .i64 0, .slice none 0 0], .bool false]) (by simp [results, Tryz.results70, go_sem, k0, k1]) rfl ?_
          exact ⟨0, none, [], 0, false, rfl, Or.inl ⟨rfl, rfl⟩, by simp, HFF.out, fun R hR => (HNO.out R hR).elim⟩
        | some i =>
          have HRF6 := Lib.hid (HRF.out.keep HF6.out)
          have HOW6 := Lib.hid (ownsRow_keep HOW.out HF6.out)
          have HFR6 := Lib.hid (fstep HFR.out HF6.out)
          have f1 := HRF6.out.cell (i := 1) rfl
          go_wp2_with (at_builtin; refine wpList_app_b Tryz.underlying52 infoInt rfl (by decide) (by decide) w4 w6 _ L.length (L.map iv) [iv i] _ rfl (by intro u hu; simp at hu; subst hu; rfl) rfl _ _ rfl rfl HOW6.out rfl rfl hL4 HFR6.out ?_; intro v3 w3' hown3 hf3 hk3; obtain ⟨r3, e3, hv3, _⟩ := owns_cap hown3; subst hv3; have hrn3 := hk3 _ _ _ HRF6.out (Or.inl (by decide)); have z1 := hrn3.frozen 1; have y1 := hrn3.cell (i := 1) rfl)
          go_wp2
          go_roundw
          case rel =>
            refine ⟨j + 1, .slice r3 (L.length + 1) e3, L ++ [i], by omega, by go_num, by simp [HLL.out], hrn3.set 1 _, ?_, fun R hR => ?_, fset hf3 hloF _⟩
            · have := owns_setO (u := .slice r3 (L.length + 1) e3) hown3 hrn3 (by decide) 1
              rw [List.length_append, List.map_append]
              simpa using this
            · obtain ⟨i', h1, h2⟩ := HPI.out R hR
              cases h1
              exact h2
          case measure => simp [intOf]; omega
      · have hltz : ¬ 2 * (j : Int) + 1 < (P.length : Int) := by omega
        have HAL : Hid (∀ R, IsRt ⟨N, F⟩ (bs s) R → R = (i1, L)) := fun R hR => by
          have h1 := (HST.out R hR).2
          have h2 := rt_done HNN.out (by rw [← HP.out]; omega) hR (HLR.out R hR)
          rw [h1, h2]
        have HFT := Lib.hid (formatRoute_any _ ⟨N, F⟩ i1 pV cV L wr (HNW.out.keep HF2R.out) hoV.ints hL4 (HT.out.keep HF2R.out) HNN.out)
        unfold OutFr at HFT
        simp only at HFT
        have n0 := (HRN.out.keep HF2R.out).cell (i := 0) rfl
        have n1 := (HRN.out.keep HF2R.out).cell (i := 1) rfl
        have f0 := hrf.cell (i := 0) rfl
        have f1 := hrf.cell (i := 1) rfl
        have HOV := Lib.hid hoV
        clear hf how hrf hLl hoV
        cases hv : isVis ⟨N, F⟩ i1 L with
        | false =>
          rw [hv, if_neg (by simp)] at HFT
          have HNO : Hid (∀ R, ¬ IsRt ⟨N, F⟩ (bs s) R) := fun R hR => by
            have h1 := (route_ne hR (HAL.out R hR)).1
            rw [hv] at h1; cases h1
          clear hv
          go_wp2_with fail
          refine (HFT.out).mono ?_
          clear HFT
          rintro e w6 ⟨rfl, hf6⟩
          have HF6 := Lib.hid hf6
          have HRZ6 := Lib.hid (HRZR.out.keep HF6.out)
          clear hf6 n0 n1 f0 f1
          have z0 := HRZ6.out.cell (i := 0) rfl
          have z1 := HRZ6.out.cell (i := 1) rfl
          have y0 := HRZ6.out.frozen 0
          have y1 := HRZ6.out.frozen 1
          have hfin := (HRZ6.out.set 0 (.int .i64 0)).set 1 (.slice none 0 0)
          have k0 := hfin.cell (i := 0) rfl
          have k1 := hfin.cell (i := 1) rfl
          have HFF := Lib.hid (fset (fset (fstep HFW.out HF6.out) hlo (o := 0) (.int .i64 0)) hlo (o := 1) (.slice none 0 0))
          clear hfin
          go_wp2
          refine bodyPost_ret (v := .tuple #[.agg #[.int .i64 0, .slice none 0 0], .bool false]) (by simp [results, Tryz.results70, go_sem, k0, k1]) rfl ?_
          exact ⟨0, none, [], 0, false, rfl, Or.inl ⟨rfl, rfl⟩, by simp, HFF.out, fun R hR => (HNO.out R hR).elim⟩
        | true =>
          rw [hv, if_pos rfl] at HFT
          clear hv
          obtain ⟨t, ht⟩ : ∃ t, t = ba (routeX ⟨N, F⟩ (i1, L)) := ⟨_, rfl⟩
          rw [← ht] at HFT
          by_cases he : t = s
          · have hd := streq he
            clear he ht
            go_wp2_with fail
            refine (HFT.out).mono ?_
            clear HFT
            rintro e w6 ⟨rfl, hf6⟩
            have HF6 := Lib.hid hf6
            have HRZ6 := Lib.hid (HRZR.out.keep HF6.out)
            replace f0 := fkeep hf6 f0
            replace f1 := fkeep hf6 f1
            have HOV6 := Lib.hid (HOV.out.keep hf6)
            have z0 := HRZ6.out.cell (i := 0) rfl
            have z1 := HRZ6.out.cell (i := 1) rfl
            have y0 := HRZ6.out.frozen 0
            have y1 := HRZ6.out.frozen 1
            have hfin := (HRZ6.out.set 0 (.int .i64 i1)).set 1 (.slice pV L.length cV)
            have k0 := hfin.cell (i := 0) rfl
            have k1 := hfin.cell (i := 1) rfl
            have HFF := Lib.hid (fset (fset (fstep HFW.out HF6.out) hlo (o := 0) (.int .i64 i1)) hlo (o := 1) (.slice pV L.length cV))
            clear hfin hf6 n0 n1
            go_wp2
            refine bodyPost_ret (v := .tuple #[.agg #[.int .i64 i1, .slice pV L.length cV], .bool true]) (by simp [results, Tryz.results70, go_sem, k0, k1]) rfl ?_
            exact ⟨i1, pV, L, cV, true, rfl, ((HOV6.out.mono HFW4.out.size).setO HRZ6.out (by decide) _ _).setO (HRZ6.out.set 0 _) (by decide) _ _, hL4, HFF.out, fun R hR => ⟨rfl, HAL.out R hR⟩⟩
          · have hd := strne he
            have HNO : Hid (∀ R, ¬ IsRt ⟨N, F⟩ (bs s) R) := fun R hR => by
              have h1 := (route_ne hR (HAL.out R hR)).2
              rw [← ht, ba_bs] at h1
              exact he h1
            clear he ht
            go_wp2_with fail
            refine (HFT.out).mono ?_
            clear HFT
            rintro e w6 ⟨rfl, hf6⟩
            have HF6 := Lib.hid hf6
            have HRZ6 := Lib.hid (HRZR.out.keep HF6.out)
            clear hf6 n0 n1 f0 f1
            have z0 := HRZ6.out.cell (i := 0) rfl
            have z1 := HRZ6.out.cell (i := 1) rfl
            have y0 := HRZ6.out.frozen 0
            have y1 := HRZ6.out.frozen 1
            have hfin := (HRZ6.out.set 0 (.int .i64 0)).set 1 (.slice none 0 0)
            have k0 := hfin.cell (i := 0) rfl
            have k1 := hfin.cell (i := 1) rfl
            have HFF := Lib.hid (fset (fset (fstep HFW.out HF6.out) hlo (o := 0) (.int .i64 0)) hlo (o := 1) (.slice none 0 0))
            clear hfin
            go_wp2
            refine bodyPost_ret (v := .tuple #[.agg #[.int .i64 0, .slice none 0 0], .bool false]) (by simp [results, Tryz.results70, go_sem, k0, k1]) rfl ?_
            exact ⟨0, none, [], 0, false, rfl, Or.inl ⟨rfl, rfl⟩, by simp, HFF.out, fun R hR => (HNO.out R hR).elim⟩
end Go.Proofs.YtjhaoonacjebpaaGreatDoor
