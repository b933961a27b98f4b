/- Contracts: the pairs of routes, the reference's side. -/
import Derived.Test.YtlapicgeokjpjaaGreatCt
namespace Go.Proofs.YtlapicgeokjpjaaGreat
open Go.RowKit Go.PlainAid

/-- Two places as a list. -/
def pI (x : Nat × Nat) : List Int := [(x.1 : Int), (x.2 : Int)]
set_option maxHeartbeats 4000000 in
set_option maxRecDepth 20000 in
theorem l7Pairs_any (v : Value) (n : Net) (s t kind : Int) (p : Option Addr) (c : Nat) (l : List LR) (w : World) (base : Nat) (hN : NetIn w v n) (hnet : netB n = true) (hs : 0 ≤ s ∧ s < (n.nodes.length : Int)) (hk : 1 ≤ kind ∧ kind ≤ 3) (hl : ∀ x ∈ l, x.start = s ∧ RtGood n s t x.fibs) (hlen : l.length ≤ 200) (hr : Rts w base (.slice p l.length c) l) :
    Calls Tryz.prog 35 #[v, .slice p l.length c, .int .i64 kind] w fun e w' => ∃ (V : Value) (I : List LI), e = .returned V ∧ w'.ownsRow w.heap.size 37 1 V I.length (I.map liV) ∧ OwnS w' w.heap.size I ∧ I.map LI.xs = (toI (dP n s (l.map LR.val) kind) l.length l.length).map pI ∧ Fresh w w' := by
  have HN := Lib.hid hN
  have HNET := Lib.hid hnet
  have HS := Lib.hid hs
  have HL := Lib.hid hl
  have HR := Lib.hid hr
  have HKD := Lib.hid hk
  obtain ⟨qn, cn, pn, cpn, rfl, _, _, n1, _, _, _, _⟩ := hN
  obtain ⟨p', c', hpc, hown, hlc, hcm⟩ := owns_cap hr.row
  cases hpc
  obtain ⟨W2, hW2, hsz2, hf2, r1, r2⟩ := two_rows w [.slice qn n.nodes.length cn, .slice pn n.fibers.length cpn] [] 27 37
  have HF2 := Lib.hid hf2
  have HR1 := Lib.hid r1
  have HW2 := Lib.hid hW2
  have HO0 := Lib.hid (show W2.ownsRow w.heap.size 37 1 (.slice (some ⟨w.heap.size + 1, 0, none⟩) 0 0) 0 [] from ownsRow_zero r2 (by omega))
  have HTL : Hid (∀ i, (toI (dP n s (l.map LR.val) kind) l.length i).length ≤ i * l.length) := fun i => toI_len _ _ i
  have HRL : Hid (∀ i k, (rowI (dP n s (l.map LR.val) kind) i k).length ≤ k) := fun i k => rowI_len _ i k
  clear hnet hs hl hr hk hown hW2 hf2 r1 r2 hsz2
  go_enter Tryz.func35, Tryz.ntmps35
  go_wp2
  rw [← HW2.out]
  go_loopw [7, 8] (fun o i wr => ∃ (j : Nat) (I : List LI), j ≤ l.length ∧ i = .int .i64 j ∧ wr.ownsRow w.heap.size 37 1 o I.length (I.map liV) ∧ OwnS wr w.heap.size I ∧ I.map LI.xs = (toI (dP n s (l.map LR.val) kind) l.length j).map pI ∧ Fresh w wr ∧ RowAt wr w.heap.size 27 [.slice qn n.nodes.length cn, .slice pn n.fibers.length cpn]) (fun _ i _ => l.length - (intOf i).toNat)
  case atStart => exact ⟨0, [], Nat.zero_le _, rfl, HO0.out, fun x hx => by simp at hx, rfl, HF2.out, HR1.out⟩
  case round =>
    obtain ⟨i, I, hi', rfl, hown, hos, hval, hf, hrn⟩ := hrel
    obtain ⟨wo, rfl⟩ : ∃ W, W = wr := ⟨_, rfl⟩
    have HO := Lib.hid hown
    have HOS := Lib.hid hos
    have HVL := Lib.hid hval
    have HF := Lib.hid hf
    have HRN := Lib.hid hrn
    clear hown hos hval hf hrn
    by_cases hlt : i < l.length
    · have hltz : (i : Int) < (l.length : Int) := by omega
      obtain ⟨x, hx⟩ : ∃ x, l[i]? = some x := ⟨l[i], List.getElem?_eq_getElem hlt⟩
      have HX := Lib.hid hx
      have hw1 : IntKind.i64.wrap ((i : Int) + 1) = (i : Int) + 1 := by rw [IntKind.wrap_i64]; omega
      clear hx
      go_wp2
      clear hw1 hltz
      go_loopw [7, 9] (fun o k wr => ∃ (m : Nat) (I2 : List LI), i + 1 ≤ m ∧ m ≤ l.length ∧ k = .int .i64 m ∧ wr.ownsRow w.heap.size 37 1 o I2.length (I2.map liV) ∧ OwnS wr w.heap.size I2 ∧ I2.map LI.xs = (toI (dP n s (l.map LR.val) kind) l.length i ++ rowI (dP n s (l.map LR.val) kind) i m).map pI ∧ Fresh w wr ∧ RowAt wr w.heap.size 27 [.slice qn n.nodes.length cn, .slice pn n.fibers.length cpn]) (fun _ k _ => l.length - (intOf k).toNat)
      case atStart => exact ⟨i + 1, I, Nat.le_refl _, by omega, by go_num, HO.out, HOS.out, by rw [rowI_low, List.append_nil]; exact HVL.out, HF.out, HRN.out⟩
      case round =>
        obtain ⟨m, I2, hm1, hm2, rfl, hown, hos, hval, hf, hrn⟩ := hrel
        have hI2 : I2.length ≤ 1048576 := by
          have h1 := congrArg List.length hval
          rw [List.length_map, List.length_map, List.length_append] at h1
          have h2 := HTL.out i
          have h3 := HRL.out i m
          have h4 : i * l.length ≤ 200 * 200 := Nat.mul_le_mul (by omega) hlen
          omega
        have HO2 := Lib.hid hown
        have HOS2 := Lib.hid hos
        have HVL2 := Lib.hid hval
        have HF2' := Lib.hid hf
        have HRN2 := Lib.hid hrn
        clear hown hos hval hf hrn
        by_cases hlt2 : m < l.length
        · have hltz : (m : Int) < (l.length : Int) := by omega
          have hltz2 : (i : Int) < (l.length : Int) := by omega
          obtain ⟨y, hy⟩ : ∃ y, l[m]? = some y := ⟨l[m], List.getElem?_eq_getElem hlt2⟩
          have HY := Lib.hid hy
          have hri := HR.out.keep HF2'.out
          have HRI := Lib.hid hri
          obtain ⟨_, _, hpe, hown, _, _⟩ := owns_cap hri.row
          cases hpe
          rcases hown.cells with hnil | ⟨b, off, rfl, hcl⟩
          · exfalso
            have := congrArg List.length hnil
            rw [flat_len lrC 2 (fun _ => rfl)] at this
            simp at this; omega
          have x0 := hcl (i * 2 + 0) _ (flat_get lrC 2 (fun _ => rfl) l i 0 (by omega) x HX.out)
          have x1 := hcl (i * 2 + 1) _ (flat_get lrC 2 (fun _ => rfl) l i 1 (by omega) x HX.out)
          have y0 := hcl (m * 2 + 0) _ (flat_get lrC 2 (fun _ => rfl) l m 0 (by omega) y hy)
          have y1 := hcl (m * 2 + 1) _ (flat_get lrC 2 (fun _ => rfl) l m 1 (by omega) y hy)
          rw [Nat.add_zero] at x0 y0
          rw [← Nat.add_assoc] at x1 y1
          have d0 := fun xa : After wr => akeep x0 xa
          have d1 := fun xa : After wr => akeep x1 xa
          have d2 := fun xa : After wr => akeep y0 xa
          have d3 := fun xa : After wr => akeep y1 xa
          have n0 := fun xa : After wr => akeep (HRN2.out.cell (i := 0) rfl) xa
          have n1' := fun xa : After wr => akeep (HRN2.out.cell (i := 1) rfl) xa
          have hxg := HL.out x (List.mem_of_getElem? HX.out)
          have hyg := HL.out y (List.mem_of_getElem? hy)
          have HDP := Lib.hid (dP_at (n := n) (s := s) (kind := kind) HX.out hy)
          have HDJ : Hid (∀ xa : After wr, Calls Tryz.prog 65 #[.agg #[.slice qn n.nodes.length cn, .slice pn n.fibers.length cpn], .agg #[.int .i64 x.start, .slice x.q x.fibs.length x.cap], .agg #[.int .i64 y.start, .slice y.q y.fibs.length y.cap], .int .i64 kind] xa.w' fun e w' => e = .returned (.bool (disjB n s x.fibs y.fibs kind)) ∧ Fresh xa.w' w') := fun xa => by
            have := l7Apart_any _ n s t x.q y.q x.cap y.cap x.fibs y.fibs kind xa.w' (HN.out.keep (fstep HF2'.out xa.h)) HNET.out HS.out HKD.out hxg.2 hyg.2 ((HRI.out.fib x (List.mem_of_getElem? HX.out)).keep xa.h).ints ((HRI.out.fib y (List.mem_of_getElem? HY.out)).keep xa.h).ints
            rw [hxg.1, hyg.1]
            exact this
          clear hy hown hcl x0 x1 y0 y1 hri
          cases hd : disjB n s x.fibs y.fibs kind
          · rw [hd] at HDJ HDP
            clear hd hxg hyg
            go_wp2
            refine wp_region_after (by kernel_rfl) (by kernel_rfl) ?_
            repeat (go_big_quiet_step ((go_at_call 65; exact after_call (HDJ.out _))))
            refine wpQuiet_nil ?_
            rintro _ ⟨xa, rfl⟩
            clear d0 d1 d2 d3 n0 n1'
            go_wp2
            go_roundw
            case rel => exact ⟨m + 1, I2, by omega, by omega, by go_num, ownsRow_keep HO2.out xa.h, HOS2.out.keep xa.h, by rw [rowI_none HDP.out]; exact HVL2.out, fstep HF2'.out xa.h, HRN2.out.keep xa.h⟩
            case measure => simp [intOf]; omega
          · rw [hd] at HDJ HDP
            clear hd hxg hyg
            go_wp2
            refine wp_region_after (by kernel_rfl) (by kernel_rfl) ?_
            repeat (go_big_quiet_step ((go_at_call 65; exact after_call (HDJ.out _))))
            refine wpQuiet_nil ?_
            rintro _ ⟨xa, rfl⟩
            clear d0 d1 d2 d3 n0 n1'
            obtain ⟨w5, hw5⟩ : ∃ W, W = xa.w' := ⟨_, rfl⟩
            rw [← hw5]
            have hf5 : Fresh wr w5 := by rw [hw5]; exact xa.h
            clear hw5
            have hf6 : Fresh w5 (w5.alloc (.cells #[.int .i64 (i : Int), .int .i64 (m : Int)] 3)) := fnew (frefl _) _
            have hr6 : RowAt (w5.alloc (.cells #[.int .i64 (i : Int), .int .i64 (m : Int)] 3)) w5.heap.size 3 [iv (i : Int), iv (m : Int)] := RowAt.new _ _ _
            have hown6 := ownsRow_keep HO2.out (fstep hf5 hf6)
            have HF6 := Lib.hid (fstep HF2'.out (fstep hf5 hf6))
            have HOS6 := Lib.hid (HOS2.out.keep (fstep hf5 hf6))
            have HRN6 := Lib.hid (HRN2.out.keep (fstep hf5 hf6))
            have HR6 := Lib.hid hr6
            have HSZ := Lib.hid (fstep HF2'.out hf5).size
            clear hf5 hf6 hr6
            go_wp2_with (at_builtin; refine wpList_app_g Tryz.underlying30 infoIs rfl (by decide) (by decide) w _ _ I2.length (I2.map liV) [liV ⟨some ⟨w5.heap.size, 0, none⟩, 2, pI (i, m)⟩] _ rfl (by intro u hu; simp at hu; subst hu; rfl) rfl _ _ rfl rfl hown6 rfl (by simp) (by omega) HF6.out ?_; intro v' w3 hown3 hf3 hkp)
            have HO3 := Lib.hid hown3
            have HF3 := Lib.hid hf3
            have HK3 := Lib.hid hkp
            clear hown3 hf3 hkp hown6
            go_wp2
            go_roundw
            case rel => exact ⟨m + 1, I2 ++ [⟨some ⟨w5.heap.size, 0, none⟩, 2, pI (i, m)⟩], by omega, by omega, by go_num, by rw [List.map_append, List.length_append]; exact HO3.out, (HOS6.out.grown HK3.out (by decide)).snoc (Or.inr ⟨w5.heap.size, [], rfl, HSZ.out, by rw [List.append_nil]; exact HK3.out _ _ _ HR6.out (by decide)⟩), by rw [rowI_some (by omega) HDP.out, ← List.append_assoc, List.map_append, List.map_append (f := pI), HVL2.out]; rfl, HF3.out, HK3.out _ _ _ HRN6.out (by decide)⟩
            case measure => simp [intOf]; omega
        · have hmn : m = l.length := by omega
          have hltz : ¬ (m : Int) < (l.length : Int) := by omega
          have HVL3 : Hid (I2.map LI.xs = (toI (dP n s (l.map LR.val) kind) l.length (i + 1)).map pI) := by
            show _ = _
            rw [toI_succ, HVL2.out, hmn]
          clear hmn
          go_wp2
          go_roundw
          case rel => exact ⟨i + 1, I2, by omega, by go_num, HO2.out, HOS2.out, HVL3.out, HF2'.out, HRN2.out⟩
          case measure => simp [intOf]; omega
    · have hjn : i = l.length := by omega
      have hltz : ¬ (i : Int) < (l.length : Int) := by omega
      subst hjn
      go_wp2
      go_ret
      exact ⟨_, rfl, I, HO.out, HOS.out, HVL.out, HF.out⟩
set_option maxHeartbeats 2000000 in
set_option maxRecDepth 20000 in
theorem specCountPairs_any (v : Value) (n : Net) (s t k : Int) (w : World) (h : NetIn w v n) :
    Calls Tryz.prog 26 #[v, .int .i64 s, .int .i64 t, .int .i64 k] w fun e w' => e = .returned (.tuple #[.int .i64 (countF n s t k).1, .bool (countF n s t k).2]) ∧ Fresh w w' := by
  have HN := Lib.hid h
  obtain ⟨qn, cn, pn, cp, rfl, _, _, n1, _, _, _, _⟩ := h
  obtain ⟨W2, hW2⟩ : ∃ W, W = w.alloc (.cells #[.slice qn n.nodes.length cn, .slice pn n.fibers.length cp] 27) := ⟨_, rfl⟩
  have hf2 : Fresh w W2 := by rw [hW2]; exact fnew (frefl _) _
  have hr2 : RowAt W2 w.heap.size 27 [.slice qn n.nodes.length cn, .slice pn n.fibers.length cp] := by rw [hW2]; exact RowAt.new _ _ _
  have HF2 := Lib.hid hf2
  have HR2 := Lib.hid hr2
  have HW2 := Lib.hid hW2
  have HAL := Lib.hid (specAllRoutes_any _ n s t W2 (HN.out.keep hf2))
  have HKI := Lib.hid (l7Kind_any k)
  clear hf2 hr2 hW2
  cases hoa : okA n s t
  · have HDEF : Hid (countF n s t k = (0, false)) := by show _ = _; unfold countF okK; rw [hoa]; rfl
    go_enter Tryz.func26, Tryz.ntmps26
    go_wp2_with fail
    rw [← HW2.out]
    refine (HAL.out).mono ?_
    rintro e w3 ⟨V, l, rfl, hr, hv, hf⟩
    have HF := Lib.hid (fstep HF2.out hf)
    clear hr hv hf
    rw [hoa]
    go_wp2
    go_ret2
    exact ⟨by rw [HDEF.out]; (first | done | rfl), HF.out⟩
  · have HOA := Lib.hid hoa
    cases hkb : kindB k
    · have HDEF : Hid (countF n s t k = (0, false)) := by show _ = _; unfold countF okK; rw [hoa, hkb]; rfl
      rw [hkb] at HKI
      go_enter Tryz.func26, Tryz.ntmps26
      go_wp2_with fail
      rw [← HW2.out]
      refine (HAL.out).mono ?_
      rintro e w3 ⟨V, l, rfl, hr, hv, hf⟩
      have HF := Lib.hid (fstep HF2.out hf)
      clear hr hv hf
      rw [hoa]
      go_wp2_with (go_at_call 25; refine (HKI.out _).mono ?_; rintro e w4 ⟨rfl, rfl⟩)
      go_ret2
      exact ⟨by rw [HDEF.out]; (first | done | rfl), HF.out⟩
    · have HDEF : Hid (countF n s t k = (((pairsF n s t k).length : Int), true)) := by show _ = _; unfold countF okK; rw [hoa, hkb]; rfl
      have HKB := Lib.hid hkb
      rw [hkb] at HKI
      go_enter Tryz.func26, Tryz.ntmps26
      go_wp2_with fail
      rw [← HW2.out]
      refine (HAL.out).mono ?_
      rintro e w3 ⟨V, l, rfl, hr, hv, hf⟩
      obtain ⟨p, c, rfl, _, _, _⟩ := owns_cap hr.row
      have HF := Lib.hid (fstep HF2.out hf)
      have hval : l.map LR.val = allR n s t := by rw [hv, (okA_len HOA.out).2]
      have hlen : l.length = (allR n s t).length := by rw [← hval]; simp
      have hll : l.length ≤ 200 := by rw [hlen]; exact (okA_len HOA.out).1
      have c0 := (HR2.out.keep hf).cell (i := 0) rfl
      have c1 := (HR2.out.keep hf).cell (i := 1) rfl
      have HPA := Lib.hid (l7Pairs_any _ n s t k p c l w3 W2.heap.size (HN.out.keep HF.out) (pairB_in (okA_pair HOA.out)).1 (pairB_in (okA_pair HOA.out)).2.1 (kindB_in HKB.out) (rts_good hval) hll hr)
      have HPF : Hid ((toI (dP n s (l.map LR.val) k) l.length l.length) = pairsF n s t k) := by show _ = _; rw [hval, hlen]; rfl
      rw [HPF.out] at HPA
      clear hr hv hf hval hlen
      rw [hoa]
      go_wp2_with (go_at_call 25; refine (HKI.out _).mono ?_; rintro e w4 ⟨rfl, rfl⟩)
      refine (HPA.out).mono ?_
      rintro e w5 ⟨V, I, rfl, hown, hos, hvi, hf5⟩
      obtain ⟨pv, cv, rfl, _, _, _⟩ := owns_cap hown
      have HLI : Hid ((I.length : Int) = ((pairsF n s t k).length : Int)) := by
        show _ = _
        have := congrArg List.length hvi
        rw [List.length_map, List.length_map] at this
        rw [this]
      have HF5 := Lib.hid (fstep HF.out hf5)
      clear hown hos hvi hf5 c0 c1
      go_wp2
      go_ret2
      exact ⟨by rw [HDEF.out, ← HLI.out]; (first | done | rfl), HF5.out⟩
end Go.Proofs.YtlapicgeokjpjaaGreat
