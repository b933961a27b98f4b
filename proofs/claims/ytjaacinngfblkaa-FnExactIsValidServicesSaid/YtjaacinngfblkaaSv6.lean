/- Contracts: valid services, the program's side. -/
import Derived.Test.YtjaacinngfblkaaSv5
namespace Go.Proofs.Ytjaacinngfblkaa
open Go.RowKit Go.PlainAid

theorem Svs.take {w : World} {p : Option Addr} {l : List LS} (h : Svs w p l) (k : Nat) : Svs w p (l.take k) := by
  refine ⟨?_, fun x hx => h.2 x (List.mem_of_mem_take hx)⟩
  rcases h.1 with h1 | ⟨b, off, rfl, hc⟩
  · left
    rw [List.flatMap_eq_nil_iff] at h1 ⊢
    exact fun x hx => h1 x (List.mem_of_mem_take hx)
  · right
    refine ⟨b, off, rfl, fun i v hv => hc i v ?_⟩
    have e : l.flatMap lsC = (l.take k).flatMap lsC ++ (l.drop k).flatMap lsC := by rw [← List.flatMap_append, List.take_append_drop]
    rw [e, List.getElem?_append_left]
    · exact hv
    · rcases Nat.lt_or_ge i ((l.take k).flatMap lsC).length with h' | h'
      · exact h'
      · rw [List.getElem?_eq_none h'] at hv; cases hv
theorem sval_at {l : List LS} {L : List SvV} (hv : L = l.map LS.val) {k : Nat} {x : LS} (hx : l[k]? = some x) : L[k]? = some x.val := by rw [hv]; simp [hx]
theorem Svs.prev {w : World} {b off : Nat} {l : List LS} (h : Svs w (some ⟨b, off, none⟩) l) {k : Nat} (hk : k < l.length) (h0 : 0 < k) :
    ∃ y, l[k - 1]? = some y ∧ w.cell? ⟨b, off + (k - 1) * 10, none⟩ = some (.int .i64 y.id) := by
  obtain ⟨b', off', y, hp, hy, _, _, hc, _⟩ := h.at (k := k - 1) (by omega)
  cases hp
  exact ⟨y, hy, hc⟩
theorem svAt_good {n : Net} {L : List SvV} {k : Nat} {x : SvV} (hx : L[k]? = some x) (h : svAt n L k = true) : svB n x = true := by
  rw [svAt_of hx] at h; simp only [Bool.and_eq_true] at h; exact h.1.1
theorem any_take_sv {n : Net} {l : List LS} {L : List SvV} (hv : L = l.map LS.val) (k : Nat) (x : SvV) : ((l.take k).any fun y => !(compB n y.val x)) = ((L.take k).any fun y => !(compB n y x)) := by
  rw [hv, ← List.map_take, List.any_map]; rfl
set_option maxHeartbeats 1000000 in
theorem svIndex_any (cl : FuncId) (p : Option Addr) (cap : Nat) (l : List LS) (g : LS → Bool) (cp : Array Value) (w : World) (hl : Svs w p l) (hn : l.length ≤ 1048576) (eg : ∀ args w, (callFunc cl args).run Try.prog w = .ok (.enter cl args) w)
    (hcl : ∀ x ∈ l, ∀ (w' : World), Fresh w w' → Calls Try.prog cl (#[lsV x] ++ cp) w' fun e w'' => e = .returned (.bool (g x)) ∧ Fresh w' w'') :
    Calls Try.prog 92 #[.slice p l.length cap, .func (.func cl) #[] cp] w fun e w' => e = .returned (.int .i64 (idxP l g)) ∧ Fresh w w' := by
  have HC := Lib.hid hcl
  have HL := Lib.hid hl
  clear hcl hl
  go_enter Try.func92, Try.ntmps92
  go_wp2
  go_loopw [5, 8] (fun _ i wr => ∃ k : Nat, k ≤ l.length ∧ i = .int .i64 k ∧ (∀ j y, j < k → l[j]? = some y → g y = false) ∧ Fresh w wr) (fun _ i _ => l.length - (intOf i).toNat)
  case atStart => exact ⟨0, Nat.zero_le _, rfl, fun j y hj => by omega, frefl _⟩
  case round =>
    obtain ⟨k, hk, rfl, hall, hf⟩ := hrel
    have HA := Lib.hid hall
    clear hall
    have HF := Lib.hid hf
    by_cases hlt : k < l.length
    · obtain ⟨b, off, x, rfl, hx, hm, _, hc⟩ := (HL.out.keep hf).at hlt
      obtain ⟨hc0, hc1, hc2, hc3, hc4, hc5, hc6, hc7, hc8, hc9⟩ := hc
      have hltz : (k : Int) < (l.length : Int) := by omega
      have HM := Lib.hid hm
      clear hf hm
      cases hg : g x
      · have HE := Lib.hid (notP HA.out hx hg)
        have HG := Lib.hid hg
        clear hx hg
        go_wp2_with fail
        refine (HC.out x HM.out _ HF.out).mono ?_
        rintro e w1 ⟨rfl, hb⟩
        have HB := Lib.hid (fstep HF.out hb)
        clear hb
        rw [HG.out]
        go_wp2
        go_roundw
        case rel => exact ⟨k + 1, by omega, by go_num, HE.out, HB.out⟩
        case measure => simp [intOf]; omega
      · have HE := Lib.hid (idxP_at HA.out hx hg)
        have HG := Lib.hid hg
        clear hx hg
        go_wp2_with fail
        refine (HC.out x HM.out _ HF.out).mono ?_
        rintro e w1 ⟨rfl, hb⟩
        have HB := Lib.hid (fstep HF.out hb)
        clear hb
        rw [HG.out]
        go_wp2
        go_ret
        exact ⟨ret_int HE.out.symm, HB.out⟩
    · have hkn : k = l.length := by omega
      have hltz : ¬ (k : Int) < (l.length : Int) := by omega
      have HE := Lib.hid (idxP_none (l := l) (f := g) (by rw [← hkn]; exact HA.out))
      clear hf
      go_wp2
      go_ret
      exact ⟨ret_int HE.out.symm, HF.out⟩
set_option maxHeartbeats 1000000 in
theorem svContains_any (cl : FuncId) (p : Option Addr) (cap : Nat) (l : List LS) (g : LS → Bool) (cp : Array Value) (w : World) (hl : Svs w p l) (hn : l.length ≤ 1048576) (eg : ∀ args w, (callFunc cl args).run Try.prog w = .ok (.enter cl args) w)
    (hcl : ∀ x ∈ l, ∀ (w' : World), Fresh w w' → Calls Try.prog cl (#[lsV x] ++ cp) w' fun e w'' => e = .returned (.bool (g x)) ∧ Fresh w' w'') :
    Calls Try.prog 47 #[.slice p l.length cap, .func (.func cl) #[] cp] w fun e w' => e = .returned (.bool (l.any g)) ∧ Fresh w w' := by
  have HI := Lib.hid (svIndex_any cl p cap l g cp w hl hn eg hcl)
  have HE := Lib.hid (idxP_any l g)
  clear hcl hl
  go_enter Try.func47, Try.ntmps47
  go_wp2_with fail
  refine HI.out.mono ?_
  rintro e w1 ⟨rfl, hb⟩
  have HB := Lib.hid hb
  clear hb
  go_wp2
  go_ret
  exact ⟨ret_bool HE.out, HB.out⟩
set_option maxHeartbeats 2000000 in
theorem svClo_any (n : Net) (q1 p : Option Addr) (mm c k0 d : Nat) (y x : LS) (hN hX : Nat) (w : World) (h : NetIn w (.agg #[.slice q1 mm c, .slice p k0 d]) n) (hnet : netB n = true) (gy : svB n y.val = true) (gx : svB n x.val = true) (hJ : IntsS w y) (hI : IntsS w x) (hm : SvSm 1048576 y) (hn : SvSm 1048576 x)
    (hr1 : RowAt w hN 32 [.slice q1 mm c, .slice p k0 d]) (hr2 : RowAt w hX 92 (lsC x)) :
    Calls Try.prog 48 #[lsV y, .pointer (some ⟨hN, 0, none⟩), .pointer (some ⟨hX, 0, none⟩)] w fun e w' => e = .returned (.bool (!(compB n y.val x.val))) ∧ Fresh w w' := by
  have HC := Lib.hid (fun w' (hf : Fresh w w') => compatible_any _ n y x w' (h.keep hf) hnet gy gx (hJ.keep hf) (hI.keep hf) hm hn)
  obtain ⟨W1, hW1⟩ : ∃ W1, W1 = w.alloc (.cells #[iv y.id, iv y.cls, iv y.w.start, .slice y.w.q y.w.fibs.length y.w.cap, iv y.wf, iv y.wc, iv y.s.start, .slice y.s.q y.s.fibs.length y.s.cap, iv y.sf, iv y.sc] 92) := ⟨_, rfl⟩
  have hf : Fresh w W1 := by rw [hW1]; exact fnew (frefl _) _
  have hr := hr2.keep hf
  have ha := hr1.keep hf
  have c0 := hr.cell (i := 0) rfl
  have c1 := hr.cell (i := 1) rfl
  have c2 := hr.cell (i := 2) rfl
  have c3 := hr.cell (i := 3) rfl
  have c4 := hr.cell (i := 4) rfl
  have c5 := hr.cell (i := 5) rfl
  have c6 := hr.cell (i := 6) rfl
  have c7 := hr.cell (i := 7) rfl
  have c8 := hr.cell (i := 8) rfl
  have c9 := hr.cell (i := 9) rfl
  have n0 := ha.cell (i := 0) rfl
  have n1 := ha.cell (i := 1) rfl
  rw [hW1] at c0 c1 c2 c3 c4 c5 c6 c7 c8 c9 n0 n1
  obtain ⟨CB, hCB⟩ : ∃ CB, CB = compB n y.val x.val := ⟨_, rfl⟩
  rw [← hCB] at HC ⊢
  have HF := Lib.hid hf
  have HW := Lib.hid hW1
  clear hf hr ha hr1 hr2 hW1 hJ hI h hCB gy gx
  go_enter Try.func48, Try.ntmps48
  go_wp2_with fail
  rw [← HW.out]
  refine (HC.out _ HF.out).mono ?_
  rintro e w1 ⟨rfl, hb⟩
  have HB := Lib.hid (fstep HF.out hb)
  clear hb c0 c1 c2 c3 c4 c5 c6 c7 c8 c9 n0 n1
  go_wp2
  go_ret
  exact ⟨rfl, HB.out⟩
set_option maxHeartbeats 8000000 in
set_option maxRecDepth 100000 in
theorem implIsValidServices_any (v : Value) (n : Net) (r : Option Addr) (e0 : Nat) (l : List LS) (w : World) (h : NetIn w v n) (hL : Svs w r l) (hs : SvsSmall l) (he : l.length ≤ e0) :
    Calls Try.prog 12 #[v, .slice r l.length e0] w fun e w' => e = .returned (.bool (svsB n (l.map LS.val))) ∧ Fresh w w' := by
  have hn := hs.1
  obtain ⟨L, hv⟩ : ∃ L, L = l.map LS.val := ⟨_, rfl⟩
  rw [← hv]
  have hlen : L.length = l.length := by rw [hv]; simp
  have HLEN := Lib.hid hlen
  have HN := Lib.hid h
  have HL := Lib.hid hL
  have HSM := Lib.hid hs
  have HV := Lib.hid hv
  have hmf : ∀ (fn : Fn) (first cap : Array Value) (w : World), (Instr.makeFunc fn first cap).run Try.prog w = .ok (.func fn first cap) w := fun _ _ _ _ => rfl
  obtain ⟨q1, mm, c, p, k0, d, rfl⟩ := h.shape
  obtain ⟨W1, hW1⟩ : ∃ W1, W1 = w.alloc (.cells #[.slice q1 mm c, .slice p k0 d] 32) := ⟨_, rfl⟩
  have HF1 : Hid (Fresh w W1) := by show Fresh w W1; rw [hW1]; exact fnew (frefl _) _
  have HR1 : Hid (RowAt W1 w.heap.size 32 [.slice q1 mm c, .slice p k0 d]) := by show RowAt W1 _ _ _; rw [hW1]; exact RowAt.new w _ _
  have HW1 := Lib.hid hW1
  clear hW1 h hL hs hv hlen
  go_enter Try.func12, Try.ntmps12
  go_wp2_with fail
  rw [← HW1.out]
  clear HW1
  refine (implIsValidNetwork_any _ n _ (HN.out.keep HF1.out)).mono ?_
  rintro e w1 ⟨rfl, hb⟩
  have HF := Lib.hid (fstep HF1.out hb)
  have HR := Lib.hid (HR1.out.keep hb)
  clear hb HF1 HR1
  cases hnet : netB n
  · have HE := Lib.hid (svsB_net (L := L) hnet)
    go_wp2
    go_ret
    exact ⟨ret_bool HE.out.symm, HF.out⟩
  · by_cases h12 : l.length ≤ 8
    · have hd : decide (8 < (l.length : Int)) = false := decide_eq_false (by omega)
      have HNET := Lib.hid hnet
      clear hnet
      go_wp2
      clear hd
      go_loopw [17] (fun i wr => ∃ k : Nat, k ≤ l.length ∧ i = .int .i64 k ∧ (∀ j, j < k → svAt n L j = true) ∧ Fresh w1 wr) (fun i _ => l.length - (intOf i).toNat)
      case atStart => exact ⟨0, Nat.zero_le _, rfl, fun j hj => by omega, frefl _⟩
      case round =>
        obtain ⟨wo, rfl⟩ : ∃ wo : World, wo = wr := ⟨_, rfl⟩
        obtain ⟨k, hk, rfl, hall, hf⟩ := hrel
        have HA := Lib.hid hall
        have HFR := Lib.hid hf
        have HW := Lib.hid (fstep HF.out hf)
        clear hall
        by_cases hlt : k < l.length
        · have hltz : (k : Int) < (l.length : Int) := by omega
          have hkz : (k : Int) ≤ (e0 : Int) := by omega
          have HLL := Lib.hid (HL.out.keep HW.out)
          obtain ⟨b, off, x, hr, hx, hm, hi, hc⟩ := HLL.out.at hlt
          obtain ⟨hc0, hc1, hc2, hc3, hc4, hc5, hc6, hc7, hc8, hc9⟩ := hc
          subst hr
          have hxv := sval_at HV.out hx
          have hsm := HSM.out.2 x hm
          obtain ⟨W3, hW3⟩ : ∃ W3, W3 = wo.alloc (.cells #[iv x.id, iv x.cls, iv x.w.start, .slice x.w.q x.w.fibs.length x.w.cap, iv x.wf, iv x.wc, iv x.s.start, .slice x.s.q x.s.fibs.length x.s.cap, iv x.sf, iv x.sc] 92) := ⟨_, rfl⟩
          have hf3 : Fresh wo W3 := by rw [hW3]; exact fnew (frefl _) _
          have hbx : RowAt W3 wo.heap.size 92 (lsC x) := by rw [hW3]; exact RowAt.new wo _ (lsC x)
          have hnr := HR.out.keep (fstep hf hf3)
          have b0 := hnr.cell (i := 0) rfl
          have b1 := hnr.cell (i := 1) rfl
          have x0 := hbx.cell (i := 0) rfl
          have x1 := hbx.cell (i := 1) rfl
          have x2 := hbx.cell (i := 2) rfl
          have x3 := hbx.cell (i := 3) rfl
          have x4 := hbx.cell (i := 4) rfl
          have x5 := hbx.cell (i := 5) rfl
          have x6 := hbx.cell (i := 6) rfl
          have x7 := hbx.cell (i := 7) rfl
          have x8 := hbx.cell (i := 8) rfl
          have x9 := hbx.cell (i := 9) rfl
          have i0 := fun xa : After W3 => akeep b0 xa
          have i1 := fun xa : After W3 => akeep b1 xa
          have j0 := fun xa : After W3 => akeep x0 xa
          have j1 := fun xa : After W3 => akeep x1 xa
          have j2 := fun xa : After W3 => akeep x2 xa
          have j3 := fun xa : After W3 => akeep x3 xa
          have j4 := fun xa : After W3 => akeep x4 xa
          have j5 := fun xa : After W3 => akeep x5 xa
          have j6 := fun xa : After W3 => akeep x6 xa
          have j7 := fun xa : After W3 => akeep x7 xa
          have j8 := fun xa : After W3 => akeep x8 xa
          have j9 := fun xa : After W3 => akeep x9 xa
          have HW3F := Lib.hid (fstep HW.out hf3)
          have HFR3 := Lib.hid (fstep hf hf3)
          have HLL3 := Lib.hid (HLL.out.keep hf3)
          have HG : Hid (∀ xa : After W3, Calls Try.prog 46 #[.agg #[.slice q1 mm c, .slice p k0 d], .agg #[iv x.id, iv x.cls, iv x.w.start, .slice x.w.q x.w.fibs.length x.w.cap, iv x.wf, iv x.wc, iv x.s.start, .slice x.s.q x.s.fibs.length x.s.cap, iv x.sf, iv x.sc]] xa.w' fun e w' => e = .returned (.bool (svB n x.val)) ∧ Fresh xa.w' w') :=
            fun xa => isService_any _ n x xa.w' (HN.out.keep (fstep (fstep HW.out hf3) xa.h)) HNET.out ((hi.keep hf3).keep xa.h) hsm
          have HI := Lib.hid (hi.keep hf3)
          have HBX := Lib.hid hbx
          have HNR := Lib.hid hnr
          have HW3 := Lib.hid hW3
          have HX := Lib.hid hx
          have HXV := Lib.hid hxv
          clear hi hm b0 b1 x0 x1 x2 x3 x4 x5 x6 x7 x8 x9 hbx hnr hf3 hW3 hx hxv hf
          cases hlb : svB n x.val
          · rw [hlb] at HG
            have HE := Lib.hid (svsB_bad (n := n) (L := L) (k := k) (by rw [HLEN.out]; exact hlt) (by rw [svAt_of HXV.out, hlb]; rfl))
            clear hlb
            go_wp2
            rw [← HW3.out]
            refine wp_region_after (by kernel_rfl) (by kernel_rfl) ?_
            repeat (go_big_quiet_step ((go_at_call 46; exact after_call (HG.out _))))
            refine wpQuiet_nil ?_
            rintro _ ⟨xa, rfl⟩
            go_wp2
            go_ret
            exact ⟨ret_bool HE.out.symm, fstep HW3F.out xa.h⟩
          · rw [hlb] at HG
            have HLB := Lib.hid hlb
            clear hlb
            have HC : Hid (∀ xa : After W3, Calls Try.prog 47 #[.slice (some ⟨b, off, none⟩) k e0, .func (.func 48) #[] #[.pointer (some ⟨w.heap.size, 0, none⟩), .pointer (some ⟨wo.heap.size, 0, none⟩)]] xa.w' fun e w' => e = .returned (.bool ((L.take k).any fun y => !(compB n y x.val))) ∧ Fresh xa.w' w') := by
              intro xa
              have hlk : (l.take k).length = k := by simp; omega
              have := svContains_any 48 (some ⟨b, off, none⟩) e0 (l.take k) (fun y => !(compB n y.val x.val)) #[.pointer (some ⟨w.heap.size, 0, none⟩), .pointer (some ⟨wo.heap.size, 0, none⟩)] xa.w' ((HLL3.out.keep xa.h).take k) (by omega) (fun _ _ => rfl)
                (fun y hy w' hfy => by
                  obtain ⟨j, hj, rfl⟩ := List.getElem_of_mem hy
                  have hjk : j < k := by omega
                  have hjl : l[j]? = some (l.take k)[j] := by rw [List.getElem_take]; exact List.getElem?_eq_getElem (by omega)
                  have hyl : (l.take k)[j] ∈ l := List.mem_of_getElem? hjl
                  exact svClo_any n q1 p mm c k0 d _ x w.heap.size wo.heap.size w' (HN.out.keep (fstep HW3F.out (fstep xa.h hfy))) HNET.out (svAt_good (sval_at HV.out hjl) (HA.out j hjk)) HLB.out ((HLL3.out.2 _ hyl).keep (fstep xa.h hfy)) (HI.out.keep (fstep xa.h hfy)) (HSM.out.2 _ hyl) hsm (HNR.out.keep (fstep xa.h hfy)) (HBX.out.keep (fstep xa.h hfy)))
              rw [hlk, any_take_sv HV.out] at this
              exact this
            obtain ⟨cb, hcb⟩ : ∃ cb, cb = ((L.take k).any fun y => !(compB n y x.val)) := ⟨_, rfl⟩
            rw [← hcb] at HC
            have HCB := Lib.hid hcb
            clear hcb
            have hord : (¬ 0 < k ∧ svOrd L k x.val = true) ∨ (0 < k ∧ ∃ y : LS, l[k - 1]? = some y ∧ W3.cell? ⟨b, off + (k - 1) * 10, none⟩ = some (.int .i64 y.id) ∧ svOrd L k x.val = decide (y.id < x.id)) := by
              by_cases h0 : 0 < k
              · obtain ⟨y, hy, hc⟩ := HLL3.out.prev hlt h0
                exact Or.inr ⟨h0, y, hy, hc, svOrd_next h0 (sval_at HV.out hy)⟩
              · have : k = 0 := by omega
                subst this
                exact Or.inl ⟨h0, svOrd_first L _⟩
            rcases hord with ⟨h0, ho⟩ | ⟨h0, y, hy, hyc, ho⟩
            · have hd0 : decide ((0 : Int) < (k : Int)) = false := decide_eq_false (by omega)
              have HO := Lib.hid ho
              clear ho
              cases cb
              · have HE : Hid (svAt n L k = true) := by show _ = _; rw [svAt_of HXV.out, HLB.out, HO.out, ← HCB.out]; rfl
                go_wp2
                rw [← HW3.out]
                refine wp_region_after (by kernel_rfl) (by kernel_rfl) ?_
                repeat (go_big_quiet_step ((first | (go_at_call 46; exact after_call (HG.out _)) | (go_at_call 47; exact after_call (HC.out _)))))
                refine wpQuiet_nil ?_
                rintro _ ⟨xa, rfl⟩
                go_wp2
                go_roundw
                case rel => exact ⟨k + 1, by omega, by go_num, okStepL HA.out HE.out, fstep HFR3.out xa.h⟩
                case measure => simp [intOf]; omega
              · have HE := Lib.hid (svsB_bad (n := n) (L := L) (k := k) (by rw [HLEN.out]; exact hlt) (by rw [svAt_of HXV.out, ← HCB.out]; simp))
                go_wp2
                rw [← HW3.out]
                refine wp_region_after (by kernel_rfl) (by kernel_rfl) ?_
                repeat (go_big_quiet_step ((first | (go_at_call 46; exact after_call (HG.out _)) | (go_at_call 47; exact after_call (HC.out _)))))
                refine wpQuiet_nil ?_
                rintro _ ⟨xa, rfl⟩
                go_wp2
                go_ret
                exact ⟨ret_bool HE.out.symm, fstep HW3F.out xa.h⟩
            · have hd0 : decide ((0 : Int) < (k : Int)) = true := decide_eq_true (by omega)
              have hz1 : (k : Int) - 1 < (l.length : Int) := by omega
              have hz2 : (k : Int) - 1 ≤ (l.length : Int) := by omega
              have hz3 : 0 ≤ (k : Int) - 1 := by omega
              have l0 := fun xa : After W3 => akeep hyc xa
              have HO := Lib.hid ho
              clear ho hy hyc
              by_cases hlo : y.id < x.id
              · have hdl : decide (x.id ≤ y.id) = false := decide_eq_false (by omega)
                have HO2 : Hid (svOrd L k x.val = true) := by show _ = _; rw [HO.out, decide_eq_true hlo]
                clear hlo
                cases cb
                · have HE : Hid (svAt n L k = true) := by show _ = _; rw [svAt_of HXV.out, HLB.out, HO2.out, ← HCB.out]; rfl
                  go_wp2
                  rw [← HW3.out]
                  refine wp_region_after (by kernel_rfl) (by kernel_rfl) ?_
                  repeat (go_big_quiet_step ((first | (go_at_call 46; exact after_call (HG.out _)) | (go_at_call 47; exact after_call (HC.out _)))))
                  refine wpQuiet_nil ?_
                  rintro _ ⟨xa, rfl⟩
                  go_wp2
                  go_roundw
                  case rel => exact ⟨k + 1, by omega, by go_num, okStepL HA.out HE.out, fstep HFR3.out xa.h⟩
                  case measure => simp [intOf]; omega
                · have HE := Lib.hid (svsB_bad (n := n) (L := L) (k := k) (by rw [HLEN.out]; exact hlt) (by rw [svAt_of HXV.out, ← HCB.out]; simp))
                  go_wp2
                  rw [← HW3.out]
                  refine wp_region_after (by kernel_rfl) (by kernel_rfl) ?_
                  repeat (go_big_quiet_step ((first | (go_at_call 46; exact after_call (HG.out _)) | (go_at_call 47; exact after_call (HC.out _)))))
                  refine wpQuiet_nil ?_
                  rintro _ ⟨xa, rfl⟩
                  go_wp2
                  go_ret
                  exact ⟨ret_bool HE.out.symm, fstep HW3F.out xa.h⟩
              · have hdl : decide (x.id ≤ y.id) = true := decide_eq_true (by omega)
                have HE := Lib.hid (svsB_bad (n := n) (L := L) (k := k) (by rw [HLEN.out]; exact hlt) (by rw [svAt_of HXV.out, HO.out, decide_eq_false hlo]; simp))
                clear hlo
                go_wp2
                rw [← HW3.out]
                refine wp_region_after (by kernel_rfl) (by kernel_rfl) ?_
                repeat (go_big_quiet_step ((first | (go_at_call 46; exact after_call (HG.out _)) | (go_at_call 47; exact after_call (HC.out _)))))
                refine wpQuiet_nil ?_
                rintro _ ⟨xa, rfl⟩
                go_wp2
                go_ret
                exact ⟨ret_bool HE.out.symm, fstep HW3F.out xa.h⟩
        · have hkn : k = l.length := by omega
          have hltz : ¬ (k : Int) < (l.length : Int) := by omega
          have HE := Lib.hid (svsB_end (n := n) (L := L) HNET.out (by rw [HLEN.out]; exact h12) (by rw [HLEN.out, ← hkn]; exact HA.out))
          clear hf
          go_wp2
          go_ret
          exact ⟨ret_bool HE.out.symm, HW.out⟩
    · have hd : decide (8 < (l.length : Int)) = true := decide_eq_true (by omega)
      have HE := Lib.hid (svsB_long (n := n) (L := L) (by rw [HLEN.out]; exact h12))
      go_wp2
      go_ret
      exact ⟨ret_bool HE.out.symm, HF.out⟩
end Go.Proofs.Ytjaacinngfblkaa
