/- Contracts: valid plans, the reference's side. -/
import Derived.Test.YtjlhjkdmpngkbaaPl
import Derived.Test.YtjlhjkdmpngkbaaLw2
namespace Go.Proofs.Ytjlhjkdmpngkbaa
open Go.RowKit Go.PlainAid

theorem ltB_good {n : Net} {x : LtV} (h : ltB n x = true) : goodB x.2.2.1 x.2.2.2 = true := by unfold ltB at h; simp only [Bool.and_eq_true] at h; exact h.2
/-- What is asked of the light at an index. -/
def orderB (L : List LtV) (k : Nat) (x : LtV) : Bool := match L[k - 1]? with | some y => decide (k = 0) || decide (y.1 < x.1) | none => true
def ltAt (n : Net) (L : List LtV) (k : Nat) : Bool := match L[k]? with | some x => ltB n x && orderB L k x && !((L.take k).any fun y => colB y x) | none => true
def planB (P : PlanV) : Bool := netB P.net && decide (P.lights.length ≤ 12) && (List.range P.lights.length).all (ltAt P.net P.lights)
theorem ltAt_of {n : Net} {L : List LtV} {k : Nat} {x : LtV} (hx : L[k]? = some x) : ltAt n L k = (ltB n x && orderB L k x && !((L.take k).any fun y => colB y x)) := by unfold ltAt; rw [hx]
theorem order_first (L : List LtV) (x : LtV) : orderB L 0 x = true := by unfold orderB; split <;> simp
theorem order_next {L : List LtV} {k : Nat} {x y : LtV} (h0 : 0 < k) (hy : L[k - 1]? = some y) : orderB L k x = decide (y.1 < x.1) := by
  unfold orderB; rw [hy]; simp only
  rw [decide_eq_false (by omega), Bool.false_or]
theorem planB_net {P : PlanV} (h : netB P.net = false) : planB P = false := by unfold planB; rw [h]; rfl
theorem planB_long {P : PlanV} (h : ¬ P.lights.length ≤ 12) : planB P = false := by unfold planB; rw [decide_eq_false h]; simp
theorem planB_bad {P : PlanV} {k : Nat} (hk : k < P.lights.length) (h : ltAt P.net P.lights k = false) : planB P = false := by unfold planB; rw [rall_bad hk h, Bool.and_false]
theorem planB_end {P : PlanV} (h1 : netB P.net = true) (h2 : P.lights.length ≤ 12) (h : ∀ k, k < P.lights.length → ltAt P.net P.lights k = true) : planB P = true := by unfold planB; rw [h1, decide_eq_true h2, rall_end h]; rfl
theorem planB_at {P : PlanV} (h : planB P = true) : netB P.net = true ∧ P.lights.length ≤ 12 ∧ ∀ k, k < P.lights.length → ltAt P.net P.lights k = true := by
  unfold planB at h
  simp only [Bool.and_eq_true, decide_eq_true_eq, List.all_eq_true, List.mem_range] at h
  exact ⟨h.1.1, h.1.2, h.2⟩
theorem ltAt_good {n : Net} {L : List LtV} {k : Nat} {x : LtV} (hx : L[k]? = some x) (h : ltAt n L k = true) : ltB n x = true := by
  rw [ltAt_of hx] at h; simp only [Bool.and_eq_true] at h; exact h.1.1
theorem planB_lt {P : PlanV} (h : planB P = true) : ∀ x ∈ P.lights, ltB P.net x = true := by
  intro x hx
  obtain ⟨_, _, h3⟩ := planB_at h
  obtain ⟨k, hk, rfl⟩ := List.getElem_of_mem hx
  exact ltAt_good (List.getElem?_eq_getElem hk) (h3 k hk)
theorem okStepL {f : Nat → Bool} {k : Nat} (h : ∀ j, j < k → f j = true) (hk : f k = true) : ∀ j, j < k + 1 → f j = true := by
  intro j hj
  rcases Nat.lt_or_ge j k with h' | h'
  · exact h j h'
  · have : j = k := by omega
    subst this; exact hk
theorem lval_at {l : List LL} {L : List LtV} (hv : L = l.map LL.val) {k : Nat} {x : LL} (hx : l[k]? = some x) : L[k]? = some x.val := by rw [hv]; simp [hx]
theorem Lts.prev {w : World} {b off : Nat} {l : List LL} (h : Lts w (some ⟨b, off, none⟩) l) {k : Nat} (hk : k < l.length) (h0 : 0 < k) :
    ∃ y, l[k - 1]? = some y ∧ w.cell? ⟨b, off + (k - 1) * 5, none⟩ = some (.int .i64 y.id) := by
  obtain ⟨b', off', y, hp, hy, _, _, hc, _⟩ := h.at (k := k - 1) (by omega)
  cases hp
  exact ⟨y, hy, hc⟩
theorem noneYet {L : List LtV} {x : LtV} {j : Nat} {y : LtV} (h : ∀ i y, i < j → L[i]? = some y → colB y x = false) (hy : L[j]? = some y) (hc : colB y x = false) : ∀ i y, i < j + 1 → L[i]? = some y → colB y x = false := by
  intro i z hi hz
  rcases Nat.lt_or_ge i j with h' | h'
  · exact h i z h' hz
  · have : i = j := by omega
    subst this; rw [hy] at hz; cases hz; exact hc
theorem noneAll {L : List LtV} {x : LtV} {k : Nat} (h : ∀ i y, i < k → L[i]? = some y → colB y x = false) : ((L.take k).any fun y => colB y x) = false := by
  rw [List.any_eq_false]
  intro y hy
  obtain ⟨i, hi, rfl⟩ := List.getElem_of_mem hy
  have hl : (L.take k).length ≤ k := by simp; omega
  have := h i (L.take k)[i] (by omega) (by rw [List.getElem_take]; exact List.getElem?_eq_getElem (by simp at hi; omega))
  rw [List.getElem_take] at this ⊢
  simp [this]
theorem someOne {L : List LtV} {x y : LtV} {k j : Nat} (hj : j < k) (hy : L[j]? = some y) (hc : colB y x = true) : ((L.take k).any fun y => colB y x) = true := by
  rw [List.any_eq_true]
  exact ⟨y, List.mem_of_getElem? (i := j) (by rw [List.getElem?_take_of_lt hj]; exact hy), hc⟩

set_option maxHeartbeats 4000000 in
set_option maxRecDepth 100000 in
theorem l9Good_any (v : Value) (P : PlanV) (w : World) (h : PlIn w v P) : Calls Try.prog 99 #[v] w fun e w' => e = .returned (.bool (planB P)) ∧ Fresh w w' := by
  obtain ⟨N, L⟩ := P
  obtain ⟨q, m, c, p, k0, d, r, e0, l, rfl, hN, hL, hs, hv, he1, he2⟩ := h
  simp only at hN hv ⊢
  have hn := hs.1
  have hlen : L.length = l.length := by rw [hv]; simp
  have HLEN := Lib.hid hlen
  have HN := Lib.hid hN
  have HL := Lib.hid hL
  have HSM := Lib.hid hs
  have HV := Lib.hid hv
  obtain ⟨W1, hW1⟩ : ∃ W1, W1 = w.alloc (.cells #[.slice q m c, .slice p k0 d, .slice r l.length e0] 62) := ⟨_, rfl⟩
  have HF1 : Hid (Fresh w W1) := by show Fresh w W1; rw [hW1]; exact fnew (frefl _) _
  have HR1 : Hid (RowAt W1 w.heap.size 62 [.slice q m c, .slice p k0 d, .slice r l.length e0]) := by show RowAt W1 _ _ _; rw [hW1]; exact RowAt.new w _ _
  have HW1 := Lib.hid hW1
  clear hW1 hN hL hs hv hlen
  go_enter Try.func99, Try.ntmps99
  go_wp2_with fail
  rw [← HW1.out]
  clear HW1
  refine (l2Good_any _ N _ (HN.out.keep HF1.out)).mono ?_
  rintro e w1 ⟨rfl, hb⟩
  have HF := Lib.hid (fstep HF1.out hb)
  have HR := Lib.hid (HR1.out.keep hb)
  have a2 := HR.out.cell (i := 2) rfl
  clear hb HF1 HR1
  cases hnet : netB N
  · have HE := Lib.hid (planB_net (P := ⟨N, L⟩) hnet)
    go_wp2
    go_ret
    exact ⟨ret_bool HE.out.symm, HF.out⟩
  · by_cases h12 : l.length ≤ 12
    · have hd : decide (12 < (l.length : Int)) = false := decide_eq_false (by omega)
      have HNET := Lib.hid hnet
      clear hnet
      go_wp2
      clear a2 hd
      go_loopw [3] (fun i wr => ∃ k : Nat, k ≤ l.length ∧ i = .int .i64 k ∧ (∀ j, j < k → ltAt N L j = true) ∧ Fresh w1 wr) (fun i _ => l.length - (intOf i).toNat)
      case atStart => exact ⟨0, Nat.zero_le _, rfl, fun j hj => by omega, frefl _⟩
      case round =>
        obtain ⟨wo, rfl⟩ : ∃ wo : World, wo = wr := ⟨_, rfl⟩
        obtain ⟨k, hk, rfl, hall, hf⟩ := hrel
        have HA := Lib.hid hall
        have HFR := Lib.hid hf
        have HW := Lib.hid (fstep HF.out hf)
        have b0 := (HR.out.keep hf).cell (i := 0) rfl
        have b1 := (HR.out.keep hf).cell (i := 1) rfl
        have b2 := (HR.out.keep hf).cell (i := 2) rfl
        clear hall hf
        by_cases hlt : k < l.length
        · have hltz : (k : Int) < (l.length : Int) := by omega
          have HLL := Lib.hid (HL.out.keep HW.out)
          obtain ⟨b, off, x, hr, hx, hm, hi, hc0, hc1, hc2, hc3, hc4⟩ := HLL.out.at hlt
          subst hr
          have hxv := lval_at HV.out hx
          have hsm := HSM.out.2 x hm
          have i0 := fun xa : After wo => akeep b0 xa
          have i1 := fun xa : After wo => akeep b1 xa
          have i2 := fun xa : After wo => akeep b2 xa
          have j0 := fun xa : After wo => akeep hc0 xa
          have j1 := fun xa : After wo => akeep hc1 xa
          have j2 := fun xa : After wo => akeep hc2 xa
          have j3 := fun xa : After wo => akeep hc3 xa
          have j4 := fun xa : After wo => akeep hc4 xa
          have HG : Hid (∀ xa : After wo, Calls Try.prog 149 #[.agg #[.slice q m c, .slice p k0 d], .agg #[iv x.id, iv x.r.start, .slice x.r.q x.r.fibs.length x.r.cap, iv x.f, iv x.c]] xa.w' fun e w' => e = .returned (.bool (ltB N x.val)) ∧ Fresh xa.w' w') :=
            fun xa => l9Light_any _ N x xa.w' (HN.out.keep (fstep HW.out xa.h)) HNET.out (hi.keep xa.h) hsm
          have HI := Lib.hid hi
          clear hi hm
          cases hlb : ltB N x.val
          · rw [hlb] at HG
            have HE := Lib.hid (planB_bad (P := ⟨N, L⟩) (k := k) (by rw [HLEN.out]; exact hlt) (by show ltAt N L k = false; rw [ltAt_of hxv, hlb]; rfl))
            clear hx hxv hlb
            go_wp2
            refine wp_region_after (by kernel_rfl) (by kernel_rfl) ?_
            repeat (go_big_quiet_step ((go_at_call 149; exact after_call (HG.out _))))
            refine wpQuiet_nil ?_
            rintro _ ⟨xa, rfl⟩
            go_wp2
            go_ret
            exact ⟨ret_bool HE.out.symm, fstep HW.out xa.h⟩
          · rw [hlb] at HG
            have hgx := ltB_good hlb
            have HGX := Lib.hid hgx
            clear hgx
            have hord : (¬ 0 < k ∧ orderB L k x.val = true) ∨ (0 < k ∧ ∃ y : LL, l[k - 1]? = some y ∧ wo.cell? ⟨b, off + (k - 1) * 5, none⟩ = some (.int .i64 y.id) ∧ orderB L k x.val = decide (y.id < x.id)) := by
              by_cases h0 : 0 < k
              · obtain ⟨y, hy, hc⟩ := HLL.out.prev hlt h0
                exact Or.inr ⟨h0, y, hy, hc, order_next h0 (lval_at HV.out hy)⟩
              · have : k = 0 := by omega
                subst this
                exact Or.inl ⟨h0, order_first L _⟩
            have hgo : ∀ (K : World → Prop), True := fun _ => trivial
            clear hgo
            rcases hord with ⟨h0, ho⟩ | ⟨h0, y, hy, hyc, ho⟩
            · have hd0 : decide ((0 : Int) < (k : Int)) = false := decide_eq_false (by omega)
              have HO := Lib.hid ho
              have HLB := Lib.hid hlb
              have HX := Lib.hid hx
              have HXV := Lib.hid hxv
              clear ho hlb hx hxv
              go_wp2
              refine wp_region_after (by kernel_rfl) (by kernel_rfl) ?_
              repeat (go_big_quiet_step ((go_at_call 149; exact after_call (HG.out _))))
              refine wpQuiet_nil ?_
              rintro _ ⟨xa, rfl⟩
              have hk0 : k = 0 := by omega
              subst hk0
              have HE : Hid (ltAt N L 0 = true) := by show ltAt N L 0 = true; rw [ltAt_of HXV.out, HLB.out, HO.out]; simp
              go_wp2
              go_loopw [4] (fun i wr => i = .int .i64 0 ∧ Fresh w1 wr) (fun _ _ => 0)
              case atStart => exact ⟨rfl, fstep HFR.out xa.h⟩
              case round =>
                obtain ⟨rfl, hf2⟩ := hrel
                have HF2 := Lib.hid hf2
                clear hf2
                go_wp2
                go_roundw
                case rel => exact ⟨0 + 1, by omega, by go_num, okStepL HA.out HE.out, HF2.out⟩
                case measure => simp [intOf]; omega
            · have hd0 : decide ((0 : Int) < (k : Int)) = true := decide_eq_true (by omega)
              have hz1 : (k : Int) - 1 < (l.length : Int) := by omega
              have hz2 : (k : Int) - 1 ≤ (l.length : Int) := by omega
              have hz3 : 0 ≤ (k : Int) - 1 := by omega
              have l0 := fun xa : After wo => akeep hyc xa
              have HO := Lib.hid ho
              have HLB := Lib.hid hlb
              have HX := Lib.hid hx
              have HXV := Lib.hid hxv
              clear ho hlb hx hxv hy
              by_cases hlo : y.id < x.id
              · have hdl : decide (x.id ≤ y.id) = false := decide_eq_false (by omega)
                have HO2 : Hid (orderB L k x.val = true) := by show _ = _; rw [HO.out, decide_eq_true hlo]
                go_wp2
                refine wp_region_after (by kernel_rfl) (by kernel_rfl) ?_
                repeat (go_big_quiet_step ((go_at_call 149; exact after_call (HG.out _))))
                refine wpQuiet_nil ?_
                rintro _ ⟨xa, rfl⟩
                clear hlo hyc l0
                go_wp2
                go_loopw [4] (fun i wr => ∃ j : Nat, j ≤ k ∧ i = .int .i64 j ∧ (∀ i y, i < j → L[i]? = some y → colB y x.val = false) ∧ Fresh w1 wr) (fun i _ => k - (intOf i).toNat)
                case atStart => exact ⟨0, Nat.zero_le _, rfl, fun i y hi => by omega, fstep HFR.out xa.h⟩
                case round =>
                  clear b0 b1 b2 hc0 hc1 hc2 hc3 hc4 i0 i1 i2 j0 j1 j2 j3 j4
                  obtain ⟨j, hj, rfl, hnone, hf2⟩ := hrel
                  have HNO := Lib.hid hnone
                  have HF2 := Lib.hid hf2
                  have HW2 := Lib.hid (fstep HF.out hf2)
                  have b2 := (HR.out.keep hf2).cell (i := 2) rfl
                  clear hnone hf2
                  by_cases hjk : j < k
                  · have hjz : (j : Int) < (k : Int) := by omega
                    have hjl : (j : Int) < (l.length : Int) := by omega
                    obtain ⟨bb, oo, z, hp, hz, hzm, hzi, d0, d1, d2, d3, d4⟩ := (HL.out.keep HW2.out).at (k := j) (by omega)
                    cases hp
                    obtain ⟨bb, oo, x', hp, hx', hxm', hxi', c0, c1, c2, c3, c4⟩ := (HL.out.keep HW2.out).at (k := k) hlt
                    cases hp
                    rw [HX.out] at hx'
                    cases hx'
                    have hzv := lval_at HV.out hz
                    have HZV := Lib.hid hzv
                    have hgz := ltB_good (ltAt_good hzv (HA.out j hjk))
                    have HGZ := Lib.hid hgz
                    have hsz := HSM.out.2 z hzm
                    have HZI := Lib.hid hzi
                    have HXI := Lib.hid hxi'
                    clear hz hzm hzi hxm' hxi' hzv hgz
                    go_wp2
                    go_still_tail 10, (by kernel_rfl)
                    change wpList _ _ _ _ _ wr.drew
                    have hb := fdrew (frefl wr)
                    replace HW2 := Lib.hid (fstep HW2.out hb)
                    replace HF2 := Lib.hid (fstep HF2.out hb)
                    replace HZI := Lib.hid (HZI.out.keep hb)
                    replace HXI := Lib.hid (HXI.out.keep hb)
                    clear hb b2 c0 c1 c2 c3 c4 d0 d1 d2 d3 d4
                    generalize wr.drew = wd at HW2 HF2 HZI HXI
                    go_wp2_with fail
                    refine (l9Collide_any z x _ HGZ.out HGX.out HZI.out HXI.out hsz hsm).mono ?_
                    rintro e w5 ⟨rfl, hb⟩
                    replace HW2 := Lib.hid (fstep HW2.out hb)
                    replace HF2 := Lib.hid (fstep HF2.out hb)
                    clear hb HZI HXI
                    cases hcol : colB z.val x.val
                    · have HNX := Lib.hid (noneYet HNO.out HZV.out hcol)
                      go_wp2
                      go_roundw
                      case rel => exact ⟨j + 1, by omega, by go_num, HNX.out, HF2.out⟩
                      case measure => simp [intOf]; omega
                    · have HE := Lib.hid (planB_bad (P := ⟨N, L⟩) (k := k) (by rw [HLEN.out]; exact hlt) (by show ltAt N L k = false; rw [ltAt_of HXV.out, someOne hjk HZV.out hcol]; simp))
                      go_wp2
                      go_ret
                      exact ⟨ret_bool HE.out.symm, HW2.out⟩
                  · have hjz : ¬ (j : Int) < (k : Int) := by omega
                    have hjk' : j = k := by omega
                    have HE : Hid (ltAt N L k = true) := by
                      show ltAt N L k = true
                      rw [ltAt_of HXV.out, HLB.out, HO2.out, noneAll (k := k) (by rw [← hjk']; exact HNO.out)]; rfl
                    clear hjk'
                    go_wp2
                    go_roundw
                    case rel => exact ⟨k + 1, by omega, by go_num, okStepL HA.out HE.out, HF2.out⟩
                    case measure => simp [intOf]; omega
              · have hdl : decide (x.id ≤ y.id) = true := decide_eq_true (by omega)
                have HE := Lib.hid (planB_bad (P := ⟨N, L⟩) (k := k) (by rw [HLEN.out]; exact hlt) (by show ltAt N L k = false; rw [ltAt_of HXV.out, HO.out, decide_eq_false hlo]; simp))
                go_wp2
                refine wp_region_after (by kernel_rfl) (by kernel_rfl) ?_
                repeat (go_big_quiet_step ((go_at_call 149; exact after_call (HG.out _))))
                refine wpQuiet_nil ?_
                rintro _ ⟨xa, rfl⟩
                go_wp2
                go_ret
                exact ⟨ret_bool HE.out.symm, fstep HW.out xa.h⟩
        · have hkn : k = l.length := by omega
          have hltz : ¬ (k : Int) < (l.length : Int) := by omega
          have HE := Lib.hid (planB_end (P := ⟨N, L⟩) HNET.out (by show L.length ≤ 12; rw [HLEN.out]; exact h12) (by show ∀ k, k < L.length → ltAt N L k = true; rw [HLEN.out, ← hkn]; exact HA.out))
          clear b0 b1
          go_wp2
          go_ret
          exact ⟨ret_bool HE.out.symm, HW.out⟩
    · have hd : decide (12 < (l.length : Int)) = true := decide_eq_true (by omega)
      have HE := Lib.hid (planB_long (P := ⟨N, L⟩) (by show ¬ L.length ≤ 12; rw [HLEN.out]; exact h12))
      go_wp2
      go_ret
      exact ⟨ret_bool HE.out.symm, HF.out⟩
end Go.Proofs.Ytjlhjkdmpngkbaa
