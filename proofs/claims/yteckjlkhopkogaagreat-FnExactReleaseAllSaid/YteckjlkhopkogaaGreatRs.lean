/- Contracts: the order of routes, the reference's side. -/
import Derived.Test.YteckjlkhopkogaaGreatRc
namespace Go.Proofs.YteckjlkhopkogaaGreat
open Go.RowKit Go.PlainAid

theorem sgn_sub (x y : Int) : cmpI (x - y) 0 = cmpI x y := by unfold cmpI; split <;> split <;> (try split) <;> (try split) <;> omega
theorem cmpI_zero {x y : Int} : cmpI x y = 0 ↔ x = y := ⟨cmpI_eq, fun h => by subst h; unfold cmpI; simp⟩
theorem cmpR_1 {F : List Fib} {A B : Int × List Int} (h : lenR F A.2 - lenR F B.2 ≠ 0) : cmpR F A B = cmpI (lenR F A.2) (lenR F B.2) := by
  rw [cmpR_eq]; unfold orC; rw [if_pos]; intro e; have := cmpI_eq e; omega
theorem cmpR_2 {F : List Fib} {A B : Int × List Int} (h1 : lenR F A.2 - lenR F B.2 = 0) (h : (A.2.length : Int) - B.2.length ≠ 0) : cmpR F A B = cmpI (A.2.length : Int) B.2.length := by
  have e1 : cmpI (lenR F A.2) (lenR F B.2) = 0 := cmpI_zero.2 (by omega)
  have e2 : cmpI (A.2.length : Int) B.2.length ≠ 0 := fun e => by have := cmpI_eq e; omega
  rw [cmpR_eq]; unfold orC; rw [if_neg (by simp [e1]), if_pos e2]
theorem cmpR_3 {F : List Fib} {A B : Int × List Int} (h1 : lenR F A.2 - lenR F B.2 = 0) (h2 : (A.2.length : Int) - B.2.length = 0) : cmpR F A B = if lexC A.2 B.2 ≠ 0 then lexC A.2 B.2 else cmpI A.1 B.1 := by
  have e1 : cmpI (lenR F A.2) (lenR F B.2) = 0 := cmpI_zero.2 (by omega)
  have e2 : cmpI (A.2.length : Int) B.2.length = 0 := cmpI_zero.2 (by omega)
  rw [cmpR_eq]; unfold orC; rw [if_neg (by simp [e1]), if_neg (by simp [e2])]
set_option maxHeartbeats 400000 in
theorem l4Sign_any (x : Int) (w : World) : Calls Tryz.prog 244 #[.int .i64 x] w fun e w' => e = .returned (.int .i64 (cmpI x 0)) ∧ w = w' := by
  rcases Int.lt_trichotomy x 0 with h | h | h
  · have HE : Hid (cmpI x 0 = -1) := by show _ = _; unfold cmpI; rw [if_pos h]
    rw [HE.out]
    go_enter Tryz.func244, Tryz.ntmps244
    go_wp2
    go_ret
    exact ⟨rfl, rfl⟩
  · subst h
    go_enter Tryz.func244, Tryz.ntmps244
    go_wp2
    go_ret
    exact ⟨rfl, rfl⟩
  · have HE : Hid (cmpI x 0 = 1) := by show _ = _; unfold cmpI; rw [if_neg (by omega), if_pos h]
    have hn : ¬ x < 0 := by omega
    rw [HE.out]
    go_enter Tryz.func244, Tryz.ntmps244
    go_wp2
    go_ret
    exact ⟨rfl, rfl⟩
set_option maxHeartbeats 4000000 in
theorem l4Length_any (v : Value) (n : Net) (s : Int) (q : Option Addr) (cap : Nat) (l : List Int) (w : World) (h : NetIn w v n) (hI : Ints w q l) (hv : RtOk n l) (hb : LenOk n) :
    Calls Tryz.prog 156 #[v, .agg #[.int .i64 s, .slice q l.length cap]] w fun e w' => e = .returned (.int .i64 (lenR n.fibers l)) ∧ Fresh w w' := by
  obtain ⟨qn, c, p, d, rfl, _, hF, _, n2, _, _, _⟩ := h
  obtain ⟨W2, hW2, hsz2, hf2, r1, r2⟩ := two_rows w [.slice qn n.nodes.length c, .slice p n.fibers.length d] [.int .i64 s, .slice q l.length cap] 35 90
  have HF2 := Lib.hid hf2
  have HR1 := Lib.hid r1
  have HR2 := Lib.hid r2
  have HI := Lib.hid (hI.keep hf2)
  have HF := Lib.hid (hF.keep hf2)
  have HB := Lib.hid hb
  have HV := Lib.hid hv.1
  have hn := hv.2
  have HW2 := Lib.hid hW2
  clear hI hF hb hv hf2 r1 r2 hW2
  go_enter Tryz.func156, Tryz.ntmps156
  go_wp2
  rw [← HW2.out]
  go_loopw [5, 6] (fun a j wr => ∃ k : Nat, k ≤ l.length ∧ j = .int .i64 k ∧ a = .int .i64 (lenR n.fibers (l.take k)) ∧ Fresh W2 wr) (fun _ j _ => l.length - (intOf j).toNat)
  case atStart => exact ⟨0, Nat.zero_le _, rfl, rfl, frefl _⟩
  case round =>
    obtain ⟨k, hk, rfl, rfl, hf⟩ := hrel
    have HFR := Lib.hid hf
    have y1 := (HR1.out.keep hf).cell (i := 1) rfl
    have z1 := (HR2.out.keep hf).cell (i := 1) rfl
    by_cases hlt : k < l.length
    · have hltz : (k : Int) < (l.length : Int) := by omega
      obtain ⟨b, off, x, rfl, hx, hc0⟩ := (HI.out.keep hf).at hlt
      obtain ⟨hx0, hx1⟩ := HV.out x (List.mem_of_getElem? hx)
      obtain ⟨i, rfl⟩ : ∃ i : Nat, x = (i : Int) := ⟨x.toNat, by omega⟩
      have hil : i < n.fibers.length := by omega
      obtain ⟨b1, o1, fa, fb, fl, fr, rfl, hfb, _, _, d2, _⟩ := (HF.out.keep hf).at hil
      have HST := Lib.hid (lenR_step (F := n.fibers) hx (f := ⟨fa, fb, fl, fr⟩) (by simpa using hfb))
      obtain ⟨g1, g2⟩ := HB.out _ (List.mem_of_getElem? hfb)
      have h12 := lenR_bd (l := l.take k) HB.out
      rw [List.length_take, Nat.min_eq_left hk] at h12
      obtain ⟨h1, h2⟩ := h12
      obtain ⟨S, hS⟩ : ∃ S, S = lenR n.fibers (l.take k) := ⟨_, rfl⟩
      rw [← hS] at h1 h2 HST ⊢
      simp only at g1 g2
      clear hx hfb hS hf
      go_wp2
      go_region
      go_wp2
      go_roundw
      case rel => exact ⟨k + 1, by omega, by go_num, by rw [HST.out], fdrew HFR.out⟩
      case measure => simp [intOf]; omega
    · have hkn : k = l.length := by omega
      subst hkn
      have hltz : ¬ ((l.length : Nat) : Int) < (l.length : Int) := by omega
      clear hf
      go_wp2
      go_ret
      exact ⟨by simp, fstep HF2.out HFR.out⟩
set_option maxHeartbeats 4000000 in
set_option maxRecDepth 100000 in
theorem l4Compare_any (v : Value) (n : Net) (x y : LR) (w : World) (h : NetIn w v n) (hx : Ints w x.q x.fibs) (hy : Ints w y.q y.fibs) (vx : RtOk n x.fibs) (vy : RtOk n y.fibs) (hb : LenOk n) (bx : -1048576 ≤ x.start ∧ x.start ≤ 1048576) (by' : -1048576 ≤ y.start ∧ y.start ≤ 1048576) :
    Calls Tryz.prog 233 #[v, lrV x, lrV y] w fun e w' => e = .returned (.int .i64 (cmpR n.fibers x.val y.val)) ∧ Fresh w w' := by
  have HN := Lib.hid h
  have hnf : n.fibers.length ≤ 1048576 := by obtain ⟨_, _, _, _, _, _, _, _, n2, _⟩ := h; exact n2
  obtain ⟨qn, m, c, p, k, d, rfl⟩ := h.shape
  obtain ⟨sx, qx, cx, fx⟩ := x
  obtain ⟨sy, qy, cy, fy⟩ := y
  simp only at hx hy vx vy bx by' ⊢
  obtain ⟨bx1, bx2⟩ := bx
  obtain ⟨by1, by2⟩ := by'
  obtain ⟨W3, hW3, hsz3, hf3, r1, r2, r3⟩ := three_rows w [.slice qn m c, .slice p k d] [.int .i64 sx, .slice qx fx.length cx] [.int .i64 sy, .slice qy fy.length cy] 35 90 90
  have HF3 := Lib.hid hf3
  have HN3 := Lib.hid (HN.out.keep hf3)
  have HX3 := Lib.hid (hx.keep hf3)
  have HY3 := Lib.hid (hy.keep hf3)
  have hnx := vx.2
  have hny := vy.2
  have HVX := Lib.hid vx.1
  have HVY := Lib.hid vy.1
  have HR2 := Lib.hid r2
  have HR3 := Lib.hid r3
  have k0 := fun xa : After W3 => akeep (r1.cell (i := 0) rfl) xa
  have k1 := fun xa : After W3 => akeep (r1.cell (i := 1) rfl) xa
  have x0 := fun xa : After W3 => akeep (r2.cell (i := 0) rfl) xa
  have x1 := fun xa : After W3 => akeep (r2.cell (i := 1) rfl) xa
  have y0 := fun xa : After W3 => akeep (r3.cell (i := 0) rfl) xa
  have y1 := fun xa : After W3 => akeep (r3.cell (i := 1) rfl) xa
  obtain ⟨lx, hlx⟩ : ∃ t, t = lenR n.fibers fx := ⟨_, rfl⟩
  obtain ⟨ly, hly⟩ : ∃ t, t = lenR n.fibers fy := ⟨_, rfl⟩
  have hbx := lenR_bd (l := fx) hb
  have hby := lenR_bd (l := fy) hb
  rw [← hlx] at hbx
  rw [← hly] at hby
  obtain ⟨hbx0, hbx1⟩ := hbx
  obtain ⟨hby0, hby1⟩ := hby
  have HL1 : Hid (∀ xa : After W3, Calls Tryz.prog 156 #[.agg #[.slice qn m c, .slice p k d], .agg #[.int .i64 sx, .slice qx fx.length cx]] xa.w' fun e w' => e = .returned (.int .i64 lx) ∧ Fresh xa.w' w') := by
    intro xa; rw [hlx]; exact l4Length_any _ n sx qx cx fx xa.w' (HN3.out.keep xa.h) (HX3.out.keep xa.h) vx hb
  have HL2 : Hid (∀ xa : After W3, Calls Tryz.prog 156 #[.agg #[.slice qn m c, .slice p k d], .agg #[.int .i64 sy, .slice qy fy.length cy]] xa.w' fun e w' => e = .returned (.int .i64 ly) ∧ Fresh xa.w' w') := by
    intro xa; rw [hly]; exact l4Length_any _ n sy qy cy fy xa.w' (HN3.out.keep xa.h) (HY3.out.keep xa.h) vy hb
  obtain ⟨RR, hRR⟩ : ∃ r, r = cmpR n.fibers (sx, fx) (sy, fy) := ⟨_, rfl⟩
  have HRR := Lib.hid hRR
  have HLX := Lib.hid hlx
  have HLY := Lib.hid hly
  have HW3 := Lib.hid hW3
  show Calls _ _ _ _ fun e w' => e = .returned (.int .i64 (cmpR n.fibers (sx, fx) (sy, fy))) ∧ Fresh w w'
  rw [← hRR]
  have hsub : IntKind.i64.wrap (lx - ly) = lx - ly := by rw [IntKind.wrap_i64]; omega
  have HSUB := Lib.hid hsub
  have HSG := Lib.hid l4Sign_any
  clear h hx hy vx vy hb hf3 r1 r2 r3 hW3 hRR hlx hly hsub
  go_enter Tryz.func233, Tryz.ntmps233
  go_wp2
  rw [← HW3.out]
  refine wp_region_after (by kernel_rfl) (by kernel_rfl) ?_
  have hsub := HSUB.out
  repeat (go_big_quiet_step ((go_at_call 156; (first | with_reducible exact after_call (HL1.out _) | with_reducible exact after_call (HL2.out _)))))
  refine wpQuiet_nil ?_
  rintro _ ⟨xa, rfl⟩
  clear hsub
  have HXA := Lib.hid (fstep HF3.out xa.h)
  have HR2A := Lib.hid (HR2.out.keep xa.h)
  have HR3A := Lib.hid (HR3.out.keep xa.h)
  have HX4 := Lib.hid (HX3.out.keep xa.h)
  have HY4 := Lib.hid (HY3.out.keep xa.h)
  have e0 := x0 xa
  have e1 := x1 xa
  have f0 := y0 xa
  have f1 := y1 xa
  clear k0 k1 x0 x1 y0 y1
  by_cases hd1 : lx - ly = 0
  rotate_left
  · have hz1 : (lx - ly != 0) = true := by simp [hd1]
    have HE : Hid (RR = cmpI (lx - ly) 0) := by show _ = _; rw [HRR.out, cmpR_1 (by rw [← HLX.out, ← HLY.out]; exact hd1), sgn_sub, HLX.out, HLY.out]
    clear hd1
    go_wp2_with fail
    refine (HSG.out _ _).mono ?_
    rintro e w1 ⟨rfl, rfl⟩
    go_wp2
    go_ret
    exact ⟨by rw [HE.out]; (first | done | rfl), HXA.out⟩
  · have hz1 : (lx - ly != 0) = false := by simp [hd1]
    by_cases hd2 : (fx.length : Int) - (fy.length : Int) = 0
    rotate_left
    · have hz2 : ((fx.length : Int) - (fy.length : Int) != 0) = true := by simp [hd2]
      have HE : Hid (RR = cmpI ((fx.length : Int) - (fy.length : Int)) 0) := by show _ = _; rw [HRR.out, cmpR_2 (by rw [← HLX.out, ← HLY.out]; exact hd1) hd2, sgn_sub]
      clear hd1 hd2
      go_wp2_with fail
      refine (HSG.out _ _).mono ?_
      rintro e w1 ⟨rfl, rfl⟩
      go_wp2
      go_ret
      exact ⟨by rw [HE.out]; (first | done | rfl), HXA.out⟩
    · have hz2 : ((fx.length : Int) - (fy.length : Int) != 0) = false := by simp [hd2]
      have HE : Hid (RR = if lexC fx fy ≠ 0 then lexC fx fy else cmpI sx sy) := by show _ = _; rw [HRR.out, cmpR_3 (by rw [← HLX.out, ← HLY.out]; exact hd1) hd2]
      have hle : fx.length = fy.length := by omega
      have HLE := Lib.hid hle
      clear hd1 hd2 hle
      have hsw : IntKind.i64.wrap (sx - sy) = sx - sy := by rw [IntKind.wrap_i64]; omega
      have HSW := Lib.hid hsw
      clear hsw
      go_wp2
      clear e0 e1 f0 f1
      go_loopw [9] (fun j wr => ∃ k : Nat, k ≤ fx.length ∧ j = .int .i64 k ∧ lexC fx fy = lexC (fx.drop k) (fy.drop k) ∧ Fresh xa.w' wr) (fun j _ => fx.length - (intOf j).toNat)
      case atStart => exact ⟨0, Nat.zero_le _, rfl, rfl, frefl _⟩
      case round =>
        obtain ⟨k, hk, rfl, hl, hf⟩ := hrel
        have HL := Lib.hid hl
        have HF := Lib.hid hf
        have e0 := (HR2A.out.keep hf).cell (i := 0) rfl
        have e1 := (HR2A.out.keep hf).cell (i := 1) rfl
        have f0 := (HR3A.out.keep hf).cell (i := 0) rfl
        have f1 := (HR3A.out.keep hf).cell (i := 1) rfl
        by_cases hlt : k < fx.length
        · have hltz : (k : Int) < (fx.length : Int) := by omega
          have hlt2 : k < fy.length := by have := HLE.out; omega
          have hltz2 : (k : Int) < (fy.length : Int) := by omega
          obtain ⟨b1, o1, a, rfl, ha, c0⟩ := (HX4.out.keep hf).at hlt
          obtain ⟨b2, o2, b, rfl, hb, c1⟩ := (HY4.out.keep hf).at hlt2
          obtain ⟨ha0, ha1⟩ := HVX.out a (List.mem_of_getElem? ha)
          obtain ⟨hb0, hb1⟩ := HVY.out b (List.mem_of_getElem? hb)
          have hab : IntKind.i64.wrap (a - b) = a - b := by rw [IntKind.wrap_i64]; omega
          have eA : fx.drop k = a :: fx.drop (k + 1) := by
            obtain ⟨e1, e2⟩ := List.getElem?_eq_some_iff.1 ha
            rw [← e2]; exact (List.getElem_cons_drop (h := e1)).symm
          have eB : fy.drop k = b :: fy.drop (k + 1) := by
            obtain ⟨e1, e2⟩ := List.getElem?_eq_some_iff.1 hb
            rw [← e2]; exact (List.getElem_cons_drop (h := e1)).symm
          have HS : Hid (lexC fx fy = if cmpI a b ≠ 0 then cmpI a b else lexC (fx.drop (k + 1)) (fy.drop (k + 1))) := by show _ = _; rw [hl, eA, eB]; rfl
          have HAB := Lib.hid hab
          clear hl hf ha hb eA eB hab
          by_cases he : a = b
          · have hz : (a != b) = false := by simp [he]
            have HS2 : Hid (lexC fx fy = lexC (fx.drop (k + 1)) (fy.drop (k + 1))) := by show _ = _; rw [HS.out, if_neg (by rw [cmpI_zero.2 he]; simp)]
            clear he
            go_wp2
            go_region
            go_wp2
            go_roundw
            case rel => exact ⟨k + 1, by omega, by go_num, HS2.out, fdrew HF.out⟩
            case measure => simp [intOf]; omega
          · have hz : (a != b) = true := by simp [he]
            have hne : cmpI a b ≠ 0 := fun e => he (cmpI_eq e)
            have HS2 : Hid (RR = cmpI (a - b) 0) := by show _ = _; rw [HE.out, HS.out, if_pos hne, if_pos hne, sgn_sub]
            clear he hne
            go_wp2
            go_region
            have hab := HAB.out
            go_wp2
            refine wp_region_after (by kernel_rfl) (by kernel_rfl) ?_
            have g0 := fun xb : After wr.drew => akeep (fkeep (fdrew (frefl wr)) e1) xb
            have g1 := fun xb : After wr.drew => akeep (fkeep (fdrew (frefl wr)) f1) xb
            have g2 := fun xb : After wr.drew => akeep (fkeep (fdrew (frefl wr)) c0) xb
            have g3 := fun xb : After wr.drew => akeep (fkeep (fdrew (frefl wr)) c1) xb
            repeat (go_big_quiet_step ((go_at_call 244; exact after_same (HSG.out _ _))))
            refine wpQuiet_nil ?_
            rintro _ ⟨xb, rfl⟩
            clear hab g0 g1 g2 g3
            go_wp2
            go_ret
            exact ⟨by rw [HS2.out]; (first | done | rfl), fstep HXA.out (fstep (fdrew HF.out) xb.h)⟩
        · have hkn : k = fx.length := by omega
          have hltz : ¬ (k : Int) < (fx.length : Int) := by omega
          have HE2 : Hid (RR = cmpI (sx - sy) 0) := by
            have h2 : fy.drop k = [] := List.drop_of_length_le (by have := HLE.out; omega)
            have h1 : fx.drop k = [] := List.drop_of_length_le (by omega)
            show _ = _; rw [HE.out, hl, h1, h2, sgn_sub]; rfl
          have hsw := HSW.out
          clear hl hkn hf
          go_wp2_with fail
          refine (HSG.out _ _).mono ?_
          rintro e w1 ⟨rfl, rfl⟩
          clear hsw
          go_wp2
          go_ret
          exact ⟨by rw [HE2.out]; (first | done | rfl), fstep HXA.out HF.out⟩
end Go.Proofs.YteckjlkhopkogaaGreat
