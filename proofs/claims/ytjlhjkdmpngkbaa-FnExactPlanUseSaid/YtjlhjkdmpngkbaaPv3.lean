/- Contracts: valid plans, the program's side. -/
import Derived.Test.YtjlhjkdmpngkbaaPv2
namespace Go.Proofs.Ytjlhjkdmpngkbaa
open Go.RowKit Go.PlainAid

theorem any_take_val {l : List LL} {L : List LtV} (hv : L = l.map LL.val) (k : Nat) (x : LtV) : ((l.take k).any fun y => colB y.val x) = ((L.take k).any fun y => colB y x) := by
  rw [hv, ← List.map_take, List.any_map]; rfl

set_option maxHeartbeats 4000000 in
set_option maxRecDepth 100000 in
theorem implIsValidPlan_any (v : Value) (P : PlanV) (w : World) (h : PlIn w v P) : Calls Try.prog 40 #[v] w fun e w' => e = .returned (.bool (planB P)) ∧ Fresh w w' := by
  obtain ⟨N, L⟩ := P
  obtain ⟨q, m, c, p, k0, d, r, e0, l, rfl, hN, hL, hs, hv, he1, he2⟩ := h
  simp only at hN hv ⊢
  have hn := hs.1
  have hlen : L.length = l.length := by rw [hv]; simp
  have HLEN := Lib.hid hlen
  have HN := Lib.hid hN
  have HL := Lib.hid hL
  have HSM := Lib.hid hs
  have HV := Lib.hid hv
  have hmf : ∀ (fn : Fn) (first cap : Array Value) (w : World), (Instr.makeFunc fn first cap).run Try.prog w = .ok (.func fn first cap) w := fun _ _ _ _ => rfl
  obtain ⟨W1, hW1⟩ : ∃ W1, W1 = w.alloc (.cells #[.slice q m c, .slice p k0 d, .slice r l.length e0] 62) := ⟨_, rfl⟩
  have HF1 : Hid (Fresh w W1) := by show Fresh w W1; rw [hW1]; exact fnew (frefl _) _
  have HR1 : Hid (RowAt W1 w.heap.size 62 [.slice q m c, .slice p k0 d, .slice r l.length e0]) := by show RowAt W1 _ _ _; rw [hW1]; exact RowAt.new w _ _
  have HW1 := Lib.hid hW1
  clear hW1 hN hL hs hv hlen
  go_enter Try.func40, Try.ntmps40
  go_wp2_with fail
  rw [← HW1.out]
  clear HW1
  refine (implIsValidNetwork_any _ N _ (HN.out.keep HF1.out)).mono ?_
  rintro e w1 ⟨rfl, hb⟩
  have HF := Lib.hid (fstep HF1.out hb)
  have HR := Lib.hid (HR1.out.keep hb)
  have a2 := HR.out.cell (i := 2) rfl
  clear hb HF1 HR1
  cases hnet : netB N
  · have HE := Lib.hid (planB_net (P := ⟨N, L⟩) hnet)
    go_wp2
    go_ret
    exact ⟨ret_bool HE.out.symm, HF.out⟩
  · by_cases h12 : l.length ≤ 12
    · have hd : decide (12 < (l.length : Int)) = false := decide_eq_false (by omega)
      have HNET := Lib.hid hnet
      clear hnet
      go_wp2
      clear a2 hd
      go_loopw [18] (fun i wr => ∃ k : Nat, k ≤ l.length ∧ i = .int .i64 k ∧ (∀ j, j < k → ltAt N L j = true) ∧ Fresh w1 wr) (fun i _ => l.length - (intOf i).toNat)
      case atStart => exact ⟨0, Nat.zero_le _, rfl, fun j hj => by omega, frefl _⟩
      case round =>
        obtain ⟨wo, rfl⟩ : ∃ wo : World, wo = wr := ⟨_, rfl⟩
        obtain ⟨k, hk, rfl, hall, hf⟩ := hrel
        have HA := Lib.hid hall
        have HFR := Lib.hid hf
        have HW := Lib.hid (fstep HF.out hf)
        clear hall
        by_cases hlt : k < l.length
        · have hltz : (k : Int) < (l.length : Int) := by omega
          have hkz : (k : Int) ≤ (e0 : Int) := by omega
          have HLL := Lib.hid (HL.out.keep HW.out)
          obtain ⟨b, off, x, hr, hx, hm, hi, hc0, hc1, hc2, hc3, hc4⟩ := HLL.out.at hlt
          subst hr
          have hxv := lval_at HV.out hx
          have hsm := HSM.out.2 x hm
          obtain ⟨W3, hW3⟩ : ∃ W3, W3 = wo.alloc (.cells #[iv x.id, iv x.r.start, .slice x.r.q x.r.fibs.length x.r.cap, iv x.f, iv x.c] 142) := ⟨_, rfl⟩
          have hf3 : Fresh wo W3 := by rw [hW3]; exact fnew (frefl _) _
          have hbx : RowAt W3 wo.heap.size 142 (llC x) := by rw [hW3]; exact RowAt.new wo _ (llC x)
          have b0 := (HR.out.keep (fstep hf hf3)).cell (i := 0) rfl
          have b1 := (HR.out.keep (fstep hf hf3)).cell (i := 1) rfl
          have b2 := (HR.out.keep (fstep hf hf3)).cell (i := 2) rfl
          have x0 := hbx.cell (i := 0) rfl
          have x1 := hbx.cell (i := 1) rfl
          have x2 := hbx.cell (i := 2) rfl
          have x3 := hbx.cell (i := 3) rfl
          have x4 := hbx.cell (i := 4) rfl
          have i0 := fun xa : After W3 => akeep b0 xa
          have i1 := fun xa : After W3 => akeep b1 xa
          have i2 := fun xa : After W3 => akeep b2 xa
          have j0 := fun xa : After W3 => akeep x0 xa
          have j1 := fun xa : After W3 => akeep x1 xa
          have j2 := fun xa : After W3 => akeep x2 xa
          have j3 := fun xa : After W3 => akeep x3 xa
          have j4 := fun xa : After W3 => akeep x4 xa
          have HW3F := Lib.hid (fstep HW.out hf3)
          have HFR3 := Lib.hid (fstep hf hf3)
          have HLL3 := Lib.hid (HLL.out.keep hf3)
          have HG : Hid (∀ xa : After W3, Calls Try.prog 101 #[.agg #[.slice q m c, .slice p k0 d], .agg #[iv x.id, iv x.r.start, .slice x.r.q x.r.fibs.length x.r.cap, iv x.f, iv x.c]] xa.w' fun e w' => e = .returned (.bool (ltB N x.val)) ∧ Fresh xa.w' w') :=
            fun xa => isLight_any _ N x xa.w' (HN.out.keep (fstep (fstep HW.out hf3) xa.h)) ((hi.keep hf3).keep xa.h) hsm
          have HI := Lib.hid (hi.keep hf3)
          have HBX := Lib.hid hbx
          have HW3 := Lib.hid hW3
          have HX := Lib.hid hx
          have HXV := Lib.hid hxv
          clear hi hm b0 b1 b2 x0 x1 x2 x3 x4 hbx hf3 hW3 hx hxv hf
          cases hlb : ltB N x.val
          · rw [hlb] at HG
            have HE := Lib.hid (planB_bad (P := ⟨N, L⟩) (k := k) (by rw [HLEN.out]; exact hlt) (by show ltAt N L k = false; rw [ltAt_of HXV.out, hlb]; rfl))
            clear hlb
            go_wp2
            rw [← HW3.out]
            refine wp_region_after (by kernel_rfl) (by kernel_rfl) ?_
            repeat (go_big_quiet_step ((go_at_call 101; exact after_call (HG.out _))))
            refine wpQuiet_nil ?_
            rintro _ ⟨xa, rfl⟩
            go_wp2
            go_ret
            exact ⟨ret_bool HE.out.symm, fstep HW3F.out xa.h⟩
          · rw [hlb] at HG
            have HGX := Lib.hid (ltB_good hlb)
            have HLB := Lib.hid hlb
            clear hlb
            have HC : Hid (∀ xa : After W3, Calls Try.prog 102 #[.slice (some ⟨b, off, none⟩) k e0, .func (.func 103) #[] #[.pointer (some ⟨wo.heap.size, 0, none⟩)]] xa.w' fun e w' => e = .returned (.bool ((L.take k).any fun y => colB y x.val)) ∧ Fresh xa.w' w') := by
              intro xa
              have hlk : (l.take k).length = k := by simp; omega
              have := ltContains_any 103 (some ⟨b, off, none⟩) e0 (l.take k) (fun y => colB y.val x.val) #[.pointer (some ⟨wo.heap.size, 0, none⟩)] xa.w' ((HLL3.out.keep xa.h).take k) (by omega) (fun _ _ => rfl)
                (fun y hy w' hfy => by
                  obtain ⟨j, hj, rfl⟩ := List.getElem_of_mem hy
                  have hjk : j < k := by omega
                  have hjl : l[j]? = some (l.take k)[j] := by rw [List.getElem_take]; exact List.getElem?_eq_getElem (by omega)
                  have hyl : (l.take k)[j] ∈ l := List.mem_of_getElem? hjl
                  exact ltClo_any _ x wo.heap.size w' (ltB_good (ltAt_good (lval_at HV.out hjl) (HA.out j hjk))) HGX.out ((HLL3.out.2 _ hyl).keep (fstep xa.h hfy)) (HI.out.keep (fstep xa.h hfy)) (HSM.out.2 _ hyl) hsm (HBX.out.keep (fstep xa.h hfy)))
              rw [hlk, any_take_val HV.out] at this
              exact this
            obtain ⟨cb, hcb⟩ : ∃ cb, cb = ((L.take k).any fun y => colB y x.val) := ⟨_, rfl⟩
            rw [← hcb] at HC
            have HCB := Lib.hid hcb
            clear hcb
            have hord : (¬ 0 < k ∧ orderB L k x.val = true) ∨ (0 < k ∧ ∃ y : LL, l[k - 1]? = some y ∧ W3.cell? ⟨b, off + (k - 1) * 5, none⟩ = some (.int .i64 y.id) ∧ orderB L k x.val = decide (y.id < x.id)) := by
              by_cases h0 : 0 < k
              · obtain ⟨y, hy, hc⟩ := HLL3.out.prev hlt h0
                exact Or.inr ⟨h0, y, hy, hc, order_next h0 (lval_at HV.out hy)⟩
              · have : k = 0 := by omega
                subst this
                exact Or.inl ⟨h0, order_first L _⟩
            rcases hord with ⟨h0, ho⟩ | ⟨h0, y, hy, hyc, ho⟩
            · have hd0 : decide ((0 : Int) < (k : Int)) = false := decide_eq_false (by omega)
              have HO := Lib.hid ho
              clear ho
              cases cb
              · have HE : Hid (ltAt N L k = true) := by show ltAt N L k = true; rw [ltAt_of HXV.out, HLB.out, HO.out, ← HCB.out]; rfl
                go_wp2
                rw [← HW3.out]
                refine wp_region_after (by kernel_rfl) (by kernel_rfl) ?_
                repeat (go_big_quiet_step ((first | (go_at_call 101; exact after_call (HG.out _)) | (go_at_call 102; exact after_call (HC.out _)))))
                refine wpQuiet_nil ?_
                rintro _ ⟨xa, rfl⟩
                go_wp2
                go_roundw
                case rel => exact ⟨k + 1, by omega, by go_num, okStepL HA.out HE.out, fstep HFR3.out xa.h⟩
                case measure => simp [intOf]; omega
              · have HE := Lib.hid (planB_bad (P := ⟨N, L⟩) (k := k) (by rw [HLEN.out]; exact hlt) (by show ltAt N L k = false; rw [ltAt_of HXV.out, ← HCB.out]; simp))
                go_wp2
                rw [← HW3.out]
                refine wp_region_after (by kernel_rfl) (by kernel_rfl) ?_
                repeat (go_big_quiet_step ((first | (go_at_call 101; exact after_call (HG.out _)) | (go_at_call 102; exact after_call (HC.out _)))))
                refine wpQuiet_nil ?_
                rintro _ ⟨xa, rfl⟩
                go_wp2
                go_ret
                exact ⟨ret_bool HE.out.symm, fstep HW3F.out xa.h⟩
            · have hd0 : decide ((0 : Int) < (k : Int)) = true := decide_eq_true (by omega)
              have hz1 : (k : Int) - 1 < (l.length : Int) := by omega
              have hz2 : (k : Int) - 1 ≤ (l.length : Int) := by omega
              have hz3 : 0 ≤ (k : Int) - 1 := by omega
              have l0 := fun xa : After W3 => akeep hyc xa
              have HO := Lib.hid ho
              clear ho hy hyc
              by_cases hlo : y.id < x.id
              · have hdl : decide (x.id ≤ y.id) = false := decide_eq_false (by omega)
                have HO2 : Hid (orderB L k x.val = true) := by show _ = _; rw [HO.out, decide_eq_true hlo]
                clear hlo
                cases cb
                · have HE : Hid (ltAt N L k = true) := by show ltAt N L k = true; rw [ltAt_of HXV.out, HLB.out, HO2.out, ← HCB.out]; rfl
                  go_wp2
                  rw [← HW3.out]
                  refine wp_region_after (by kernel_rfl) (by kernel_rfl) ?_
                  repeat (go_big_quiet_step ((first | (go_at_call 101; exact after_call (HG.out _)) | (go_at_call 102; exact after_call (HC.out _)))))
                  refine wpQuiet_nil ?_
                  rintro _ ⟨xa, rfl⟩
                  go_wp2
                  go_roundw
                  case rel => exact ⟨k + 1, by omega, by go_num, okStepL HA.out HE.out, fstep HFR3.out xa.h⟩
                  case measure => simp [intOf]; omega
                · have HE := Lib.hid (planB_bad (P := ⟨N, L⟩) (k := k) (by rw [HLEN.out]; exact hlt) (by show ltAt N L k = false; rw [ltAt_of HXV.out, ← HCB.out]; simp))
                  go_wp2
                  rw [← HW3.out]
                  refine wp_region_after (by kernel_rfl) (by kernel_rfl) ?_
                  repeat (go_big_quiet_step ((first | (go_at_call 101; exact after_call (HG.out _)) | (go_at_call 102; exact after_call (HC.out _)))))
                  refine wpQuiet_nil ?_
                  rintro _ ⟨xa, rfl⟩
                  go_wp2
                  go_ret
                  exact ⟨ret_bool HE.out.symm, fstep HW3F.out xa.h⟩
              · have hdl : decide (x.id ≤ y.id) = true := decide_eq_true (by omega)
                have HE := Lib.hid (planB_bad (P := ⟨N, L⟩) (k := k) (by rw [HLEN.out]; exact hlt) (by show ltAt N L k = false; rw [ltAt_of HXV.out, HO.out, decide_eq_false hlo]; simp))
                clear hlo
                go_wp2
                rw [← HW3.out]
                refine wp_region_after (by kernel_rfl) (by kernel_rfl) ?_
                repeat (go_big_quiet_step ((first | (go_at_call 101; exact after_call (HG.out _)) | (go_at_call 102; exact after_call (HC.out _)))))
                refine wpQuiet_nil ?_
                rintro _ ⟨xa, rfl⟩
                go_wp2
                go_ret
                exact ⟨ret_bool HE.out.symm, fstep HW3F.out xa.h⟩
        · have hkn : k = l.length := by omega
          have hltz : ¬ (k : Int) < (l.length : Int) := by omega
          have HE := Lib.hid (planB_end (P := ⟨N, L⟩) HNET.out (by show L.length ≤ 12; rw [HLEN.out]; exact h12) (by show ∀ k, k < L.length → ltAt N L k = true; rw [HLEN.out, ← hkn]; exact HA.out))
          clear hf
          go_wp2
          go_ret
          exact ⟨ret_bool HE.out.symm, HW.out⟩
    · have hd : decide (12 < (l.length : Int)) = true := decide_eq_true (by omega)
      have HE := Lib.hid (planB_long (P := ⟨N, L⟩) (by show ¬ L.length ≤ 12; rw [HLEN.out]; exact h12))
      go_wp2
      go_ret
      exact ⟨ret_bool HE.out.symm, HF.out⟩

set_option maxHeartbeats 1000000 in
theorem specIsValidPlan_any (v : Value) (P : PlanV) (w : World) (h : PlIn w v P) : Calls Try.prog 38 #[v] w fun e w' => e = .returned (.bool (planB P)) ∧ Fresh w w' := by
  have HP := Lib.hid h
  obtain ⟨q, m, c, p, k, d, r, i, e, rfl⟩ := h.shape
  clear h
  have HW := Lib.hid (fnew (frefl w) (.cells #[.slice q m c, .slice p k d, .slice r i e] 62))
  go_enter Try.func38, Try.ntmps38
  go_wp2_with fail
  refine (l9Good_any _ P _ (HP.out.keep HW.out)).mono ?_
  rintro e w1 ⟨rfl, hb⟩
  have HB := Lib.hid (fstep HW.out hb)
  clear hb
  go_wp2
  go_ret
  exact ⟨rfl, HB.out⟩
end Go.Proofs.Ytjlhjkdmpngkbaa
