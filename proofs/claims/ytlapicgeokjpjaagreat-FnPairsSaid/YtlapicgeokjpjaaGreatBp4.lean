/- Contracts: the best pair of routes, the reference's side. -/
import Derived.Test.YtlapicgeokjpjaaGreatBp3
namespace Go.Proofs.YtlapicgeokjpjaaGreat
open Go.RowKit Go.PlainAid

theorem two_res {w : World} {A B : Nat} {t : TypeId} {u0 u1 u2 u3 : Value} (hA : RowAt w A t [u0, u1]) (hB : RowAt w B t [u2, u3]) (hne : A ≠ B) (a0 a1 b0 b1 : Value) :
    (w.cell? ⟨A, 0, none⟩ = some u0 ∧ w.cell? ⟨A, 1, none⟩ = some u1 ∧ w.frozen? ⟨A, 0, none⟩ = false ∧ w.frozen? ⟨A, 1, none⟩ = false) ∧
    (((w.setCell ⟨A, 0, none⟩ a0).setCell ⟨A, 1, none⟩ a1).cell? ⟨B, 0, none⟩ = some u2 ∧ ((w.setCell ⟨A, 0, none⟩ a0).setCell ⟨A, 1, none⟩ a1).cell? ⟨B, 1, none⟩ = some u3 ∧ ((w.setCell ⟨A, 0, none⟩ a0).setCell ⟨A, 1, none⟩ a1).frozen? ⟨B, 0, none⟩ = false ∧ ((w.setCell ⟨A, 0, none⟩ a0).setCell ⟨A, 1, none⟩ a1).frozen? ⟨B, 1, none⟩ = false) ∧
    ((((w.setCell ⟨A, 0, none⟩ a0).setCell ⟨A, 1, none⟩ a1).setCell ⟨B, 0, none⟩ b0).setCell ⟨B, 1, none⟩ b1).cell? ⟨A, 0, none⟩ = some a0 ∧ ((((w.setCell ⟨A, 0, none⟩ a0).setCell ⟨A, 1, none⟩ a1).setCell ⟨B, 0, none⟩ b0).setCell ⟨B, 1, none⟩ b1).cell? ⟨A, 1, none⟩ = some a1 ∧
    ((((w.setCell ⟨A, 0, none⟩ a0).setCell ⟨A, 1, none⟩ a1).setCell ⟨B, 0, none⟩ b0).setCell ⟨B, 1, none⟩ b1).cell? ⟨B, 0, none⟩ = some b0 ∧ ((((w.setCell ⟨A, 0, none⟩ a0).setCell ⟨A, 1, none⟩ a1).setCell ⟨B, 0, none⟩ b0).setCell ⟨B, 1, none⟩ b1).cell? ⟨B, 1, none⟩ = some b1 := by
  have hB' := (hB.setOther (Ne.symm hne) (o := 0) a0).setOther (Ne.symm hne) (o := 1) a1
  have hA' := (((hA.set 0 a0).set 1 a1).setOther hne (o := 0) b0).setOther hne (o := 1) b1
  have hB2 := (hB'.set 0 b0).set 1 b1
  exact ⟨⟨hA.cell rfl, hA.cell rfl, hA.frozen 0, hA.frozen 1⟩, ⟨hB'.cell rfl, hB'.cell rfl, hB'.frozen 0, hB'.frozen 1⟩, hA'.cell rfl, hA'.cell rfl, hB2.cell rfl, hB2.cell rfl⟩
/-- What the reference's loop over the pairs knows. -/
def LpB (S : Nat × Nat → Int) (P : List (Nat × Nat)) (j : Nat) (b m : Int) : Prop := (bestQ S (P.take j) = none ∧ b = -1 ∧ m = 0) ∨ ∃ (t : Nat) (z : Nat × Nat), t < j ∧ P[t]? = some z ∧ bestQ S (P.take j) = some z ∧ b = (t : Int) ∧ m = S z
theorem LpB.zero (S : Nat × Nat → Int) (P : List (Nat × Nat)) : LpB S P 0 (-1) 0 := Or.inl ⟨rfl, rfl, rfl⟩
theorem LpB.take {S : Nat × Nat → Int} {P : List (Nat × Nat)} {j : Nat} {b m : Int} {x : Nat × Nat} (h : LpB S P j b m) (hx : P[j]? = some x) (hc : b < 0 ∨ S x < m) : LpB S P (j + 1) (j : Int) (S x) := by
  refine Or.inr ⟨j, x, by omega, hx, ?_, rfl, rfl⟩
  rw [List.take_add_one, hx]
  show bestQ S (P.take j ++ [x]) = some x
  rw [bestQ_snoc]
  rcases h with ⟨e, _, _⟩ | ⟨t, z, _, _, e, hb, hm⟩
  · rw [e]; rfl
  · rw [e]
    unfold bst
    have : S x < S z := by omega
    simp only [if_pos this]
theorem LpB.skip {S : Nat × Nat → Int} {P : List (Nat × Nat)} {j : Nat} {b m : Int} {x : Nat × Nat} (h : LpB S P j b m) (hx : P[j]? = some x) (hc : ¬ (b < 0 ∨ S x < m)) : LpB S P (j + 1) b m := by
  rcases h with ⟨e, hb, _⟩ | ⟨t, z, ht, hz, e, hb, hm⟩
  · exfalso; omega
  · refine Or.inr ⟨t, z, by omega, hz, ?_, hb, hm⟩
    rw [List.take_add_one, hx]
    show bestQ S (P.take j ++ [x]) = some z
    rw [bestQ_snoc, e]
    unfold bst
    have : ¬ S x < S z := by omega
    simp only [if_neg this]
theorem LpB.bd {S : Nat × Nat → Int} {P : List (Nat × Nat)} {j : Nat} {b m : Int} (h : LpB S P j b m) : b = -1 ∨ (0 ≤ b ∧ b < (j : Int)) := by
  rcases h with ⟨_, hb, _⟩ | ⟨t, z, ht, _, _, hb, _⟩ <;> omega
theorem outBp_zero {n : Net} {s t k : Int} {w w' : World} {b : Bool} (h : bestF n s t k = ((0, []), (0, []), false, b)) (hf : Fresh w w') : OutBp n s t k w (.returned (.tuple #[.agg #[.int .i64 0, .slice none 0 0], .agg #[.int .i64 0, .slice none 0 0], .bool false, .bool b])) w' :=
  ⟨_, _, by rw [h], ⟨by rw [h]; exact rt_zero _ _, by rw [h]; exact rt_zero _ _, apart_zero⟩, hf⟩
set_option maxHeartbeats 4000000 in
set_option maxRecDepth 20000 in
theorem specBestPair_any (v : Value) (n : Net) (s t k : Int) (w : World) (h : NetIn w v n) :
    Calls Tryz.prog 14 #[v, .int .i64 s, .int .i64 t, .int .i64 k] w (OutBp n s t k w) := by
  have HN := Lib.hid h
  obtain ⟨qn, cn, pn, cp, rfl, _, _, n1, _, _, _, _⟩ := h
  obtain ⟨W3, hW3, hsz3, hf3, r1, r2, r3⟩ := three_rows w [.slice qn n.nodes.length cn, .slice pn n.fibers.length cp] [.int .i64 0, .slice none 0 0] [.int .i64 0, .slice none 0 0] 27 39 39
  have HF3 := Lib.hid hf3
  have HW3 := Lib.hid hW3
  have HR1 := Lib.hid r1
  have HR2 := Lib.hid r2
  have HR3 := Lib.hid r3
  have HS3 := Lib.hid hsz3
  have HAL := Lib.hid (specAllRoutes_any _ n s t W3 (HN.out.keep hf3))
  have HKI := Lib.hid (l7Kind_any k)
  clear hf3 hW3 r1 r2 r3 hsz3
  have hAB : w.heap.size + 1 ≠ w.heap.size + 1 + 1 := by omega
  cases hoa : okA n s t
  · have HDEF := Lib.hid (bestF_no (show okK n s t k = false by unfold okK; rw [hoa]; rfl))
    go_enter Tryz.func14, Tryz.ntmps14
    go_wp2_with fail
    rw [← HW3.out]
    refine (HAL.out).mono ?_
    rintro e w4 ⟨V, l, rfl, hr, hv, hf⟩
    have HF := Lib.hid (fstep HF3.out hf)
    obtain ⟨⟨z0, z1, u0, u1⟩, ⟨y0, y1, y2, y3⟩, k0, k1, k2, k3⟩ := two_res (HR2.out.keep hf) (HR3.out.keep hf) hAB (.int .i64 0) (.slice none 0 0) (.int .i64 0) (.slice none 0 0)
    clear hr hv hf
    rw [hoa]
    go_wp2
    refine bodyPost_ret (v := .tuple #[.agg #[.int .i64 0, .slice none 0 0], .agg #[.int .i64 0, .slice none 0 0], .bool false, .bool false]) (by simp [results, Tryz.results14, go_sem, k0, k1, k2, k3]) rfl ?_
    exact outBp_zero HDEF.out (fset (fset (fset (fset HF.out (by omega) _) (by omega) _) (by omega) _) (by omega) _)
  · have HOA := Lib.hid hoa
    cases hkb : kindB k
    · have HDEF := Lib.hid (bestF_no (show okK n s t k = false by unfold okK; rw [hoa, hkb]; rfl))
      rw [hkb] at HKI
      go_enter Tryz.func14, Tryz.ntmps14
      go_wp2_with fail
      rw [← HW3.out]
      refine (HAL.out).mono ?_
      rintro e w4 ⟨V, l, rfl, hr, hv, hf⟩
      have HF := Lib.hid (fstep HF3.out hf)
      obtain ⟨⟨z0, z1, u0, u1⟩, ⟨y0, y1, y2, y3⟩, k0, k1, k2, k3⟩ := two_res (HR2.out.keep hf) (HR3.out.keep hf) hAB (.int .i64 0) (.slice none 0 0) (.int .i64 0) (.slice none 0 0)
      clear hr hv hf
      rw [hoa]
      go_wp2_with (go_at_call 25; refine (HKI.out _).mono ?_; rintro e w5 ⟨rfl, rfl⟩)
      refine bodyPost_ret (v := .tuple #[.agg #[.int .i64 0, .slice none 0 0], .agg #[.int .i64 0, .slice none 0 0], .bool false, .bool false]) (by simp [results, Tryz.results14, go_sem, k0, k1, k2, k3]) rfl ?_
      exact outBp_zero HDEF.out (fset (fset (fset (fset HF.out (by omega) _) (by omega) _) (by omega) _) (by omega) _)
    · have HKB := Lib.hid hkb
      have HOKK : Hid (okK n s t k = true) := by show _ = _; unfold okK; rw [hoa, hkb]; rfl
      rw [hkb] at HKI
      go_enter Tryz.func14, Tryz.ntmps14
      go_wp2_with fail
      rw [← HW3.out]
      refine (HAL.out).mono ?_
      rintro e w3 ⟨V, l, rfl, hr, hv, hf⟩
      obtain ⟨p, c, rfl, _, _, _⟩ := owns_cap hr.row
      have HF := Lib.hid (fstep HF3.out hf)
      have hval : l.map LR.val = allR n s t := by rw [hv, (okA_len HOA.out).2]
      have hlen : l.length = (allR n s t).length := by rw [← hval]; simp
      have hll : l.length ≤ 200 := by rw [hlen]; exact (okA_len HOA.out).1
      have c0 := (HR1.out.keep hf).cell (i := 0) rfl
      have c1 := (HR1.out.keep hf).cell (i := 1) rfl
      have hnet := (pairB_in (okA_pair HOA.out)).1
      have hgood := rts_good hval
      have HPA := Lib.hid (l7Pairs_any _ n s t k p c l w3 W3.heap.size (HN.out.keep HF.out) hnet (pairB_in (okA_pair HOA.out)).2.1 (kindB_in HKB.out) hgood hll hr)
      have HPF : Hid ((toI (dP n s (l.map LR.val) k) l.length l.length) = pairsF n s t k) := by show _ = _; rw [hval, hlen]; rfl
      rw [HPF.out] at HPA
      have HSM := Lib.hid (rts_small hnet (pairB_in (okA_pair HOA.out)).2.1 hgood)
      have HLE := Lib.hid (net_len hnet)
      have HRW := Lib.hid hr
      have HVAL := Lib.hid hval
      have HR1' := Lib.hid (HR1.out.keep hf)
      have HR2' := Lib.hid (HR2.out.keep hf)
      have HR3' := Lib.hid (HR3.out.keep hf)
      have HSZ : Hid (W3.heap.size ≤ w3.heap.size) := hf.size
      have HPL := Lib.hid (pairsF_len (k := k) HOA.out)
      have HPM : Hid (∀ (j : Nat) (z : Nat × Nat), (pairsF n s t k)[j]? = some z → z.1 < z.2 ∧ z.2 < l.length) := by
        intro j z hz
        have hm := List.mem_of_getElem? hz
        rw [← HPF.out] at hm
        exact ⟨(mem_toI.1 hm).2.1, (mem_toI.1 hm).2.2.1⟩
      obtain ⟨P, hP⟩ : ∃ P, P = pairsF n s t k := ⟨_, rfl⟩
      have HPE := Lib.hid hP
      rw [← hP] at HPA HPL HPM
      clear hr hv hf hval hlen hnet hgood hP
      rw [hoa]
      go_wp2_with (go_at_call 25; refine (HKI.out _).mono ?_; rintro e w4 ⟨rfl, rfl⟩)
      refine (HPA.out).mono ?_
      rintro e w5 ⟨V, I, rfl, hown, hos, hvi, hf5⟩
      obtain ⟨pv, cv, rfl, _, _, _⟩ := owns_cap hown
      have hli : I.length = P.length := by
        have := congrArg List.length hvi
        rw [List.length_map, List.length_map] at this
        exact this
      have HOW := Lib.hid hown
      have HOS := Lib.hid hos
      have HVI := Lib.hid hvi
      have HF5 := Lib.hid (fstep HF.out hf5)
      have HF53 := Lib.hid hf5
      have hI4 : I.length ≤ 40000 := by rw [hli]; exact HPL.out
      clear hown hos hvi hf5 c0 c1 HPA
      go_wp2
      go_loopw [15, 16, 17] (fun b m i wr => ∃ (j : Nat) (bb mm : Int), j ≤ P.length ∧ b = .int .i64 bb ∧ m = .int .i64 mm ∧ i = .int .i64 j ∧ LpB (sumP n (l.map LR.val)) P j bb mm ∧ Fresh w5 wr) (fun _ _ i _ => P.length - (intOf i).toNat)
      case atStart => exact ⟨0, -1, 0, Nat.zero_le _, rfl, rfl, rfl, LpB.zero _ _, frefl _⟩
      case round =>
        obtain ⟨j, bb, mm, hj, rfl, rfl, rfl, hlp, hf⟩ := hrel
        have HLP := Lib.hid hlp
        have HFR := Lib.hid hf
        clear hlp
        by_cases hlt : j < P.length
        · have hltz : (j : Int) < (I.length : Int) := by rw [hli]; omega
          obtain ⟨z, hz⟩ : ∃ z, P[j]? = some z := ⟨P[j], List.getElem?_eq_getElem hlt⟩
          obtain ⟨hz1, hz2⟩ := HPM.out j z hz
          obtain ⟨x, hx⟩ : ∃ x, l[z.1]? = some x := ⟨_, List.getElem?_eq_getElem (by omega)⟩
          obtain ⟨y, hy⟩ : ∃ y, l[z.2]? = some y := ⟨_, List.getElem?_eq_getElem hz2⟩
          have HSU := Lib.hid (show sumP n (l.map LR.val) z = lenR n.fibers x.fibs + lenR n.fibers y.fibs from sumP_at hx hy)
          obtain ⟨X, hX⟩ : ∃ X, I[j]? = some X := ⟨_, List.getElem?_eq_getElem (by omega)⟩
          have hXx : X.xs = pI z := by
            have h1 : (I.map LI.xs)[j]? = some X.xs := by rw [List.getElem?_map, hX]; rfl
            rw [HVI.out, List.getElem?_map, hz] at h1
            exact (Option.some.inj h1).symm
          obtain ⟨_, _, hpe, howI, _, _⟩ := owns_cap (ownsRow_keep HOW.out hf)
          cases hpe
          rcases howI.cells with hnil | ⟨b1, off1, rfl, hc1⟩
          · exfalso
            have := congrArg List.length hnil
            simp at this
            subst this; simp at hX
          have d0 := hc1 j (liV X) (by rw [List.getElem?_map, hX]; rfl)
          obtain ⟨Xq, Xc, Xs⟩ := X
          simp only at hXx
          subst hXx
          have hoX := (HOS.out _ (List.mem_of_getElem? hX)).keep hf
          rcases hoX.cells with hnil | ⟨b2, off2, hq2, hc2⟩
          · simp [pI] at hnil
          simp only at hq2
          subst hq2
          have d1 := hc2 0 (iv (z.1 : Int)) rfl
          have d2 := hc2 1 (iv (z.2 : Int)) rfl
          rw [Nat.add_zero] at d1
          obtain ⟨_, _, hpe, howA, _, _⟩ := owns_cap ((HRW.out.keep HF53.out).keep hf).row
          cases hpe
          rcases howA.cells with hnil | ⟨b3, off3, rfl, hc3⟩
          · exfalso
            have := congrArg List.length hnil
            rw [flat_len lrC 2 (fun _ => rfl)] at this
            simp at this; omega
          have x0 := hc3 (z.1 * 2 + 0) _ (flat_get lrC 2 (fun _ => rfl) l z.1 0 (by omega) x hx)
          have x1 := hc3 (z.1 * 2 + 1) _ (flat_get lrC 2 (fun _ => rfl) l z.1 1 (by omega) x hx)
          have y0 := hc3 (z.2 * 2 + 0) _ (flat_get lrC 2 (fun _ => rfl) l z.2 0 (by omega) y hy)
          have y1 := hc3 (z.2 * 2 + 1) _ (flat_get lrC 2 (fun _ => rfl) l z.2 1 (by omega) y hy)
          rw [Nat.add_zero] at x0 y0
          rw [← Nat.add_assoc] at x1 y1
          have hrn := (HR1'.out.keep HF53.out).keep hf
          have HRI := Lib.hid ((HRW.out.keep HF53.out).keep hf)
          have HXM := Lib.hid (List.mem_of_getElem? hx)
          have HYM := Lib.hid (List.mem_of_getElem? hy)
          have HLZ : Hid (∀ (u : LR), (u = x ∨ u = y) → ∀ xa : After wr, Calls Tryz.prog 36 #[.agg #[.slice qn n.nodes.length cn, .slice pn n.fibers.length cp], .agg #[.int .i64 u.start, .slice u.q u.fibs.length u.cap]] xa.w' fun e w' => e = .returned (.int .i64 (lenR n.fibers u.fibs)) ∧ Fresh xa.w' w') := by
            rintro u hu xa
            have hm : u ∈ l := by rcases hu with rfl | rfl; exact HXM.out; exact HYM.out
            exact l4Length_any _ n _ _ _ _ xa.w' (HN.out.keep (fstep HF5.out (fstep hf xa.h))) ((HRI.out.fib u hm).keep xa.h).ints (HSM.out u hm).1 HLE.out
          have b4 := lenR_bd (n := n) (l := x.fibs) HLE.out
          have b5 := lenR_bd (n := n) (l := y.fibs) HLE.out
          have b6 := (HSM.out x HXM.out).2
          have b7 := (HSM.out y HYM.out).2
          have hadd : IntKind.i64.wrap (lenR n.fibers x.fibs + lenR n.fibers y.fibs) = lenR n.fibers x.fibs + lenR n.fibers y.fibs := by rw [IntKind.wrap_i64]; omega
          have e0 := fun xa : After wr => akeep d0 xa
          have e1 := fun xa : After wr => akeep d1 xa
          have e2 := fun xa : After wr => akeep d2 xa
          have e3 := fun xa : After wr => akeep x0 xa
          have e4 := fun xa : After wr => akeep x1 xa
          have e5 := fun xa : After wr => akeep y0 xa
          have e6 := fun xa : After wr => akeep y1 xa
          have e7 := fun xa : After wr => akeep (hrn.cell (i := 0) rfl) xa
          have e8 := fun xa : After wr => akeep (hrn.cell (i := 1) rfl) xa
          have hz1z : (z.1 : Int) < (l.length : Int) := by omega
          have hz2z : (z.2 : Int) < (l.length : Int) := by omega
          have HZ := Lib.hid hz
          have hlt2 : j < I.length := by omega
          clear d0 d1 d2 x0 x1 y0 y1 hrn howI howA hc1 hc2 hc3 hoX hX hx hy hz hf b4 b5 b6 b7
          simp only [liV, pI, List.length_cons, List.length_nil] at e0
          go_wp2
          refine wp_region_after (by kernel_rfl) (by kernel_rfl) ?_
          repeat (go_big_quiet_step ((go_at_call 36; exact after_call (HLZ.out _ (by first | exact Or.inl rfl | exact Or.inr rfl) _))))
          refine wpQuiet_nil ?_
          rintro _ ⟨xa, rfl⟩
          clear e0 e1 e2 e3 e4 e5 e6 e7 e8
          have hbd := HLP.out.bd
          have hjw : IntKind.i64.wrap ((j : Int) + 1) = (j : Int) + 1 := by rw [IntKind.wrap_i64]; omega
          by_cases hc : bb < 0 ∨ lenR n.fibers x.fibs + lenR n.fibers y.fibs < mm
          · have HL2 := Lib.hid (HLP.out.take HZ.out (by rw [HSU.out]; exact hc))
            rw [HSU.out] at HL2
            rcases (show bb < 0 ∨ (¬ bb < 0 ∧ lenR n.fibers x.fibs + lenR n.fibers y.fibs < mm) by omega) with h1 | ⟨h1, h2⟩
            all_goals (
              clear hc
              go_wp2
              go_roundw
              case rel => exact ⟨j + 1, (j : Int), _, by omega, rfl, rfl, by go_num, HL2.out, fstep HFR.out xa.h⟩
              case measure => simp [intOf]; omega)
          · have HL2 := Lib.hid (HLP.out.skip HZ.out (by rw [HSU.out]; exact hc))
            have h1 : ¬ bb < 0 := fun h => hc (Or.inl h)
            have h2 : ¬ lenR n.fibers x.fibs + lenR n.fibers y.fibs < mm := fun h => hc (Or.inr h)
            clear hc
            go_wp2
            go_roundw
            case rel => exact ⟨j + 1, bb, mm, by omega, rfl, rfl, by go_num, HL2.out, fstep HFR.out xa.h⟩
            case measure => simp [intOf]; omega
        · have hjn : j = P.length := by omega
          have hltz : ¬ (j : Int) < (I.length : Int) := by rw [hli]; omega
          have hlp := HLP.out
          unfold LpB at hlp
          rw [hjn, List.take_length] at hlp
          have hbp : bestQ (sumP n (l.map LR.val)) P = bestP n s t k := by rw [HVAL.out, HPE.out]; rfl
          rw [hbp] at hlp
          have rA := (HR2'.out.keep HF53.out).keep hf
          have rB := (HR3'.out.keep HF53.out).keep hf
          have hwA : w.heap.size ≤ w.heap.size + 1 := by omega
          have hwB : w.heap.size ≤ w.heap.size + 1 + 1 := by omega
          have l1 : w.heap.size + 1 < W3.heap.size := by have := HS3.out; omega
          have l2 : w.heap.size + 1 + 1 < W3.heap.size := by have := HS3.out; omega
          rcases hlp with ⟨e0, rfl, rfl⟩ | ⟨tt, z, htt, hz, e0, rfl, rfl⟩
          · have HDEF := Lib.hid (bestF_none HOKK.out e0)
            obtain ⟨⟨z0, z1, u0, u1⟩, ⟨y0, y1, y2, y3⟩, k0, k1, k2, k3⟩ := two_res rA rB hAB (.int .i64 0) (.slice none 0 0) (.int .i64 0) (.slice none 0 0)
            have HFF := Lib.hid (fstep HF5.out hf)
            clear e0 rA rB hf hjn hbp
            go_wp2
            refine bodyPost_ret (v := .tuple #[.agg #[.int .i64 0, .slice none 0 0], .agg #[.int .i64 0, .slice none 0 0], .bool false, .bool true]) (by simp [results, Tryz.results14, go_sem, k0, k1, k2, k3]) rfl ?_
            exact outBp_zero HDEF.out (fset (fset (fset (fset HFF.out hwA _) hwA _) hwB _) hwB _)
          · have HDEF := Lib.hid (bestF_some HOKK.out e0)
            obtain ⟨hz1, hz2⟩ := HPM.out tt z hz
            obtain ⟨x, hx⟩ : ∃ x, l[z.1]? = some x := ⟨_, List.getElem?_eq_getElem (by omega)⟩
            obtain ⟨y, hy⟩ : ∃ y, l[z.2]? = some y := ⟨_, List.getElem?_eq_getElem hz2⟩
            obtain ⟨X, hX⟩ : ∃ X, I[tt]? = some X := ⟨_, List.getElem?_eq_getElem (by omega)⟩
            have hXx : X.xs = pI z := by
              have h1 : (I.map LI.xs)[tt]? = some X.xs := by rw [List.getElem?_map, hX]; rfl
              rw [HVI.out, List.getElem?_map, hz] at h1
              exact (Option.some.inj h1).symm
            have hrA := (HRW.out.keep HF53.out).keep hf
            have hox := rts_own hrA hx
            have hoy := rts_own hrA hy
            have hap := rts_apart hrA (show z.1 ≠ z.2 by omega) hx hy
            obtain ⟨_, _, hpe, howI, _, _⟩ := owns_cap (ownsRow_keep HOW.out hf)
            cases hpe
            rcases howI with ⟨_, hnil⟩ | ⟨g1, sp1, rfl, hg1, rI⟩
            · exfalso
              have := congrArg List.length hnil
              simp at this
              subst this; simp at hX
            have d0 : ∀ wz, RowAt wz g1 37 (I.map liV ++ sp1) → wz.cell? ⟨g1, tt, none⟩ = some (liV X) := fun wz hr => hr.cell (by rw [List.getElem?_append_left (by simp; omega), List.getElem?_map, hX]; rfl)
            obtain ⟨Xq, Xc, Xs⟩ := X
            simp only at hXx
            subst hXx
            have hoX := (HOS.out _ (List.mem_of_getElem? hX)).keep hf
            rcases hoX with ⟨_, hnil⟩ | ⟨g2, sp2, hq2, hg2, rX⟩
            · simp [pI] at hnil
            simp only at hq2
            subst hq2
            obtain ⟨_, _, hpe, howA, _, _⟩ := owns_cap hrA.row
            cases hpe
            rcases howA with ⟨_, hnil⟩ | ⟨g3, sp3, rfl, hg3, rR⟩
            · exfalso
              have := congrArg List.length hnil
              rw [flat_len lrC 2 (fun _ => rfl)] at this
              simp at this; omega
            have dx0 : ∀ wz, RowAt wz g3 39 (l.flatMap lrC ++ sp3) → wz.cell? ⟨g3, z.1 * 2, none⟩ = some (iv x.start) := fun wz hr => hr.cell (by rw [List.getElem?_append_left (by rw [flat_len lrC 2 (fun _ => rfl)]; omega)]; exact flat_get lrC 2 (fun _ => rfl) l z.1 0 (by omega) x hx)
            have dx1 : ∀ wz, RowAt wz g3 39 (l.flatMap lrC ++ sp3) → wz.cell? ⟨g3, z.1 * 2 + 1, none⟩ = some (.slice x.q x.fibs.length x.cap) := fun wz hr => hr.cell (by rw [List.getElem?_append_left (by rw [flat_len lrC 2 (fun _ => rfl)]; omega)]; exact flat_get lrC 2 (fun _ => rfl) l z.1 1 (by omega) x hx)
            have dy0 : ∀ wz, RowAt wz g3 39 (l.flatMap lrC ++ sp3) → wz.cell? ⟨g3, z.2 * 2, none⟩ = some (iv y.start) := fun wz hr => hr.cell (by rw [List.getElem?_append_left (by rw [flat_len lrC 2 (fun _ => rfl)]; omega)]; exact flat_get lrC 2 (fun _ => rfl) l z.2 0 (by omega) y hy)
            have dy1 : ∀ wz, RowAt wz g3 39 (l.flatMap lrC ++ sp3) → wz.cell? ⟨g3, z.2 * 2 + 1, none⟩ = some (.slice y.q y.fibs.length y.cap) := fun wz hr => hr.cell (by rw [List.getElem?_append_left (by rw [flat_len lrC 2 (fun _ => rfl)]; omega)]; exact flat_get lrC 2 (fun _ => rfl) l z.2 1 (by omega) y hy)
            have hS : ∀ wz, RowAt wz g1 37 (I.map liV ++ sp1) → RowAt wz g2 3 ((pI z).map iv ++ sp2) → RowAt wz g3 39 (l.flatMap lrC ++ sp3) →
                wz.cell? ⟨g1, tt, none⟩ = some (.slice (some ⟨g2, 0, none⟩) 2 Xc) ∧ wz.cell? ⟨g2, 0, none⟩ = some (.int .i64 (z.1 : Int)) ∧ wz.cell? ⟨g2, 1, none⟩ = some (.int .i64 (z.2 : Int)) ∧ wz.cell? ⟨g3, z.1 * 2, none⟩ = some (.int .i64 x.start) ∧ wz.cell? ⟨g3, z.1 * 2 + 1, none⟩ = some (.slice x.q x.fibs.length x.cap) ∧ wz.cell? ⟨g3, z.2 * 2, none⟩ = some (.int .i64 y.start) ∧ wz.cell? ⟨g3, z.2 * 2 + 1, none⟩ = some (.slice y.q y.fibs.length y.cap) :=
              fun wz h1 h2 h3 => ⟨d0 wz h1, h2.cell (i := 0) rfl, h2.cell (i := 1) rfl, dx0 wz h3, dx1 wz h3, dy0 wz h3, dy1 wz h3⟩
            have HSS := Lib.hid hS
            have HOX := Lib.hid hox
            have HOY := Lib.hid hoy
            have HAP := Lib.hid hap
            have hsz := HSZ.out
            have hz1z : (z.1 : Int) < (l.length : Int) := by omega
            have hz2z : (z.2 : Int) < (l.length : Int) := by omega
            have httz : (tt : Int) < (I.length : Int) := by omega
            have hbn : ¬ (tt : Int) < 0 := by omega
            have n1A : g1 ≠ w.heap.size + 1 := by omega
            have n1B : g1 ≠ w.heap.size + 1 + 1 := by omega
            have n2A : g2 ≠ w.heap.size + 1 := by omega
            have n2B : g2 ≠ w.heap.size + 1 + 1 := by omega
            have n3A : g3 ≠ w.heap.size + 1 := by omega
            have n3B : g3 ≠ w.heap.size + 1 + 1 := by omega
            have HFF := Lib.hid (fstep HF5.out hf)
            have HRI := Lib.hid rI
            have HRX := Lib.hid rX
            have HRR := Lib.hid rR
            have HRA := Lib.hid rA
            have HRB := Lib.hid rB
            have httP : tt < P.length := by omega
            have httI : tt < I.length := by omega
            have hz1l : z.1 < l.length := by omega
            clear e0 rA rB hf hjn hbp hS hox hoy hap rI rX rR d0 dx0 dx1 dy0 dy1 hrA hx hy hX hz htt hg1 hg2 hg3
            go_wp2
            refine hd_start (n := 20) (S := fun wz => wz.cell? ⟨g1, tt, none⟩ = some (.slice (some ⟨g2, 0, none⟩) 2 Xc) ∧ wz.cell? ⟨g2, 0, none⟩ = some (.int .i64 (z.1 : Int)) ∧ wz.cell? ⟨g2, 1, none⟩ = some (.int .i64 (z.2 : Int)) ∧ wz.cell? ⟨g3, z.1 * 2, none⟩ = some (.int .i64 x.start) ∧ wz.cell? ⟨g3, z.1 * 2 + 1, none⟩ = some (.slice x.q x.fibs.length x.cap) ∧ wz.cell? ⟨g3, z.2 * 2, none⟩ = some (.int .i64 y.start) ∧ wz.cell? ⟨g3, z.2 * 2 + 1, none⟩ = some (.slice y.q y.fibs.length y.cap)) (by kernel_rfl) (by kernel_rfl) (HSS.out _ (HRI.out.keep (fdrew (frefl _))) (HRX.out.keep (fdrew (frefl _))) (HRR.out.keep (fdrew (frefl _)))) (fun hHeld => ?_)
            obtain ⟨W0, hW0⟩ : ∃ W, W = wr.drew := ⟨_, rfl⟩
            rw [← hW0] at hHeld ⊢
            have f0 : Fresh wr W0 := by rw [hW0]; exact fdrew (frefl _)
            clear hW0
            refine hd_tk (i := 0) (v := ?_) rfl ?_ ?_
            rotate_left
            · (intro w hSw; (try dsimp only at hSw); go_simp; first | done | with_reducible rfl)
            try simp only [PU]
            refine hd_tk (i := 1) (v := ?_) rfl ?_ ?_
            rotate_left
            · (intro w hSw; (try dsimp only at hSw); go_simp; first | done | with_reducible rfl)
            try simp only [PU]
            refine hd_tk (i := 2) (v := ?_) rfl ?_ ?_
            rotate_left
            · (intro w hSw; (try dsimp only at hSw); go_simp; first | done | with_reducible rfl)
            try simp only [PU]
            refine hd_tk (i := 3) (v := ?_) rfl ?_ ?_
            rotate_left
            · (intro w hSw; (try dsimp only at hSw); go_simp; first | done | with_reducible rfl)
            try simp only [PU]
            refine hd_tk (i := 4) (v := ?_) rfl ?_ ?_
            rotate_left
            · (intro w hSw; (try dsimp only at hSw); go_simp; first | done | with_reducible rfl)
            try simp only [PU]
            refine hd_tk (i := 5) (v := ?_) rfl ?_ ?_
            rotate_left
            · (intro w hSw; (try dsimp only at hSw); go_simp; first | done | with_reducible rfl)
            try simp only [PU]
            refine hd_tk (i := 6) (v := ?_) rfl ?_ ?_
            rotate_left
            · (intro w hSw; (try dsimp only at hSw); go_simp; first | done | with_reducible rfl)
            try simp only [PU]
            refine hd_tk (i := 7) (v := ?_) rfl ?_ ?_
            rotate_left
            · (intro w hSw; (try dsimp only at hSw); go_simp; first | done | with_reducible rfl)
            try simp only [PU]
            refine hd_tk (i := 8) (v := ?_) rfl ?_ ?_
            rotate_left
            · (intro w hSw; (try dsimp only at hSw); go_simp; first | done | with_reducible rfl)
            try simp only [PU]
            refine hd_tk (i := 9) (v := ?_) rfl ?_ ?_
            rotate_left
            · (intro w hSw; (try dsimp only at hSw); go_simp; first | done | with_reducible rfl)
            try simp only [PU]
            refine hd_tk (i := 10) (v := ?_) rfl ?_ ?_
            rotate_left
            · (intro w hSw; (try dsimp only at hSw); go_simp; first | done | with_reducible rfl)
            try simp only [PU]
            refine hd_tk (i := 11) (v := ?_) rfl ?_ ?_
            rotate_left
            · (intro w hSw; (try dsimp only at hSw); go_simp; first | done | with_reducible rfl)
            try simp only [PU]
            refine hd_tk (i := 12) (v := ?_) rfl ?_ ?_
            rotate_left
            · (intro w hSw; (try dsimp only at hSw); go_simp; first | done | with_reducible rfl)
            try simp only [PU]
            refine hd_tk (i := 13) (v := ?_) rfl ?_ ?_
            rotate_left
            · (intro w hSw; (try dsimp only at hSw); go_simp; first | done | with_reducible rfl)
            try simp only [PU]
            refine hd_tk (i := 14) (v := ?_) rfl ?_ ?_
            rotate_left
            · (intro w hSw; (try dsimp only at hSw); go_simp; first | done | with_reducible rfl)
            try simp only [PU]
            refine hd_tk (i := 15) (v := ?_) rfl ?_ ?_
            rotate_left
            · (intro w hSw; (try dsimp only at hSw); go_simp; first | done | with_reducible rfl)
            try simp only [PU]
            refine hd_tk (i := 16) (v := ?_) rfl ?_ ?_
            rotate_left
            · (intro w hSw; (try dsimp only at hSw); go_simp; first | done | with_reducible rfl)
            try simp only [PU]
            refine hd_tk (i := 17) (v := ?_) rfl ?_ ?_
            rotate_left
            · (intro w hSw; (try dsimp only at hSw); go_simp; first | done | with_reducible rfl)
            try simp only [PU]
            have qA := HRA.out.keep f0
            have qB := HRB.out.keep f0
            obtain ⟨⟨z0, z1, u0, u1⟩, ⟨y0, y1, y2, y3⟩, k0, k1, k2, k3⟩ := two_res qA qB hAB (.int .i64 x.start) (.slice x.q x.fibs.length x.cap) (.int .i64 y.start) (.slice y.q y.fibs.length y.cap)
            have q1 := ((HRI.out.keep f0).setOther n1A (o := 0) (.int .i64 x.start)).setOther n1A (o := 1) (.slice x.q x.fibs.length x.cap)
            have q2 := ((HRX.out.keep f0).setOther n2A (o := 0) (.int .i64 x.start)).setOther n2A (o := 1) (.slice x.q x.fibs.length x.cap)
            have q3 := ((HRR.out.keep f0).setOther n3A (o := 0) (.int .i64 x.start)).setOther n3A (o := 1) (.slice x.q x.fibs.length x.cap)
            refine hd_one (i := 18) rfl (by kernel_rfl) (by kernel_rfl) (fun K hK => ?_)
            (go_simp)
            refine hK.out _ _ ?_ (fun hHeld => ?_)
            · exact HSS.out _ q1 q2 q3
            clear hK K
            try simp only [PU]
            refine hd_one (i := 19) rfl (by kernel_rfl) (by kernel_rfl) (fun K hK => ?_)
            (go_simp)
            refine hK.out _ _ ?_ (fun hHeld => ?_)
            · exact HSS.out _ ((q1.setOther n1B (o := 0) _).setOther n1B (o := 1) _) ((q2.setOther n2B (o := 0) _).setOther n2B (o := 1) _) ((q3.setOther n3B (o := 0) _).setOther n3B (o := 1) _)
            clear hK K
            try simp only [PU]
            have HF0 := Lib.hid f0
            refine hd_done (by kernel_rfl) ?_
            clear hHeld
            simp only [List.drop_succ_cons, List.drop_zero]
            go_wp2
            refine bodyPost_ret (v := .tuple #[.agg #[.int .i64 x.start, .slice x.q x.fibs.length x.cap], .agg #[.int .i64 y.start, .slice y.q y.fibs.length y.cap], .bool true, .bool true]) (by simp [results, Tryz.results14, go_sem, k0, k1, k2, k3]) rfl ?_
            refine ⟨_, _, by rw [HDEF.out], ⟨?_, ?_, HAP.out⟩, fset (fset (fset (fset (fstep HFF.out HF0.out) hwA _) hwA _) hwB _) hwB _⟩
            · rw [HDEF.out, ← HVAL.out]
              exact (((((HOX.out.keep HF0.out).setO l1 _ _).setO l1 _ _).setO l2 _ _).setO l2 _ _).mono (by omega)
            · rw [HDEF.out, ← HVAL.out]
              exact (((((HOY.out.keep HF0.out).setO l1 _ _).setO l1 _ _).setO l2 _ _).setO l2 _ _).mono (by omega)
theorem implBestPair_l (v : Value) (n : Net) (s t k : Int) (w : World) (h : NetIn w v n) :
    Calls Tryz.prog 11 #[v, .int .i64 s, .int .i64 t, .int .i64 k] w fun e w' => ∃ vA vB, e = .returned (.tuple #[vA, vB, .bool (bestF n s t k).2.2.1, .bool (bestF n s t k).2.2.2]) ∧ (RtOwn w' w.heap.size vA (bestF n s t k).1 ∧ RtOwn w' w.heap.size vB (bestF n s t k).2.1 ∧ RtApart vA vB) ∧ Fresh w w' := implBestPair_any v n s t k w h
theorem specBestPair_l (v : Value) (n : Net) (s t k : Int) (w : World) (h : NetIn w v n) :
    Calls Tryz.prog 14 #[v, .int .i64 s, .int .i64 t, .int .i64 k] w fun e w' => ∃ vA vB, e = .returned (.tuple #[vA, vB, .bool (bestF n s t k).2.2.1, .bool (bestF n s t k).2.2.2]) ∧ (RtOwn w' w.heap.size vA (bestF n s t k).1 ∧ RtOwn w' w.heap.size vB (bestF n s t k).2.1 ∧ RtApart vA vB) ∧ Fresh w w' := specBestPair_any v n s t k w h
end Go.Proofs.YtlapicgeokjpjaaGreat
