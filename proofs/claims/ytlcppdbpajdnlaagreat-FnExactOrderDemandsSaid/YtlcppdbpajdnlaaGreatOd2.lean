/- Contracts: OrderDemands, the reference's side. -/
import Derived.Test.YtlcppdbpajdnlaaGreatOd
import Derived.Test.YtlcppdbpajdnlaaGreatCs2
namespace Go.Proofs.YtlcppdbpajdnlaaGreat
open Go.RowKit Go.PlainAid

def odT (L : List Int) (j : Nat) : List Int := (List.range j).map fun i => ((ordS (ltO (cfO L)) j i : Nat) : Int)
theorem odT_len (L : List Int) (j : Nat) : (odT L j).length = j := by simp [odT]
theorem odT_all (L : List Int) : odT L L.length = odL L := rfl
theorem odT_get {L : List Int} {j i : Nat} (h : i < j) : (odT L j)[i]? = some ((ordS (ltO (cfO L)) j i : Nat) : Int) := by
  unfold odT; rw [List.getElem?_map, List.getElem?_range h]; rfl
theorem odT_step {L : List Int} {j k : Nat} (hk : k = insAt (ltO (cfO L)) (ordS (ltO (cfO L)) j) j j) : (odT L j).take k ++ [(j : Int)] ++ (odT L j).drop k = odT L (j + 1) := by
  have hle : k ≤ j := by rw [hk]; exact insAt_le _ _ _ _
  have hlen := odT_len L j
  apply List.ext_getElem?
  intro t
  rcases Nat.lt_or_ge t (j + 1) with h | h
  · rw [odT_get h]
    have e : ordS (ltO (cfO L)) (j + 1) t = rot (ordS (ltO (cfO L)) j) k j (j + 1) t := by rw [hk]; rfl
    rw [e, List.append_assoc]
    rcases Nat.lt_trichotomy t k with h1 | h1 | h1
    · rw [List.getElem?_append_left (by rw [List.length_take]; omega), List.getElem?_take_of_lt h1, odT_get (by omega), rot_be _ hle h1]
    · subst h1
      rw [List.getElem?_append_right (by rw [List.length_take]; omega), List.length_take, Nat.min_eq_left (by omega), rot_at _ hle, ordS_out _ _ _ (Nat.le_refl _)]
      simp
    · rw [List.getElem?_append_right (by rw [List.length_take]; omega), List.length_take, Nat.min_eq_left (by omega)]
      obtain ⟨u, hu⟩ : ∃ u, t - k = u + 1 := ⟨t - k - 1, by omega⟩
      rw [hu, List.singleton_append, List.getElem?_cons_succ, List.getElem?_drop, odT_get (by omega), rot_hi (by omega)]
      congr 3
      omega
  · rw [List.getElem?_eq_none (by rw [List.length_append, List.length_append, List.length_take, List.length_drop]; simp; omega), List.getElem?_eq_none (by rw [odT_len]; exact h)]
theorem ones_iv (l : List Int) : ∀ u ∈ l.map iv, u.oneCell' = true := by
  intro u hu
  obtain ⟨x, _, rfl⟩ := List.mem_map.1 hu
  rfl
theorem partI_a {W : World} {base : Nat} {r : Option Addr} {l : List Int} (k : Nat) (h : Own W base 3 r (l.map iv)) : Cells W r ((l.take k).map iv) := by
  rcases h.cells with h | ⟨b, off, e, h⟩
  · left
    have : l = [] := List.map_eq_nil_iff.1 h
    rw [this]; simp
  · refine Or.inr ⟨b, off, e, fun j u hj => h j u ?_⟩
    rw [List.map_take] at hj
    have hlt : j < k := by
      rcases Nat.lt_or_ge j k with h' | h'
      · exact h'
      · rw [List.getElem?_eq_none (by rw [List.length_take]; omega)] at hj; cases hj
    rwa [List.getElem?_take_of_lt hlt] at hj
theorem partI_b {W : World} {base g : Nat} {l : List Int} {cap k : Nat} (hk : k ≤ l.length) (hc : l.length ≤ cap) (h : Own W base 3 (some ⟨g, 0, none⟩) (l.map iv)) : Cells W (if cap = k then (some (⟨g, 0, none⟩ : Addr)) else some ⟨g, k, none⟩) ((l.drop k).map iv) := by
  by_cases hck : cap = k
  · left
    rw [List.map_eq_nil_iff, List.drop_eq_nil_iff]; omega
  · rw [if_neg hck]
    rcases h with ⟨h0, _⟩ | ⟨g', sp, h1, _, hW⟩
    · cases h0
    · cases h1
      refine Or.inr ⟨g, k, rfl, fun j u hj => ?_⟩
      rw [List.map_drop, List.getElem?_drop] at hj
      exact hW.cell (by rw [List.getElem?_append_left (List.getElem?_eq_some_iff.1 hj).1]; exact hj)
theorem odL_small (n : Net) (fm : List (Int × Int)) (l : List Fib) : (odL (costL n fm l)).length ≤ 1048576 := by rw [odL_len]; have := costL_len n fm l; omega
set_option maxHeartbeats 8000000 in
set_option maxRecDepth 100000 in
theorem specOrderDemands_any (v : Value) (n : Net) (v1 : Value) (fm : List (Int × Int)) (v2 : Value) (l : List Fib) (w : World) (h : NetIn w v n) (h1 : FmIn w v1 fm) (h2 : DmIn w v2 l) :
    Calls Tryz.prog 34 #[v, v1, v2] w fun e w' => ∃ p c, e = .returned (.tuple #[.slice p (odL (costL n fm l)).length c, .bool (costB n fm l)]) ∧ Own w' w.heap.size 3 p ((odL (costL n fm l)).map iv) ∧ Fresh w w' := by
  obtain ⟨pf, cf, rfl, hfm, hfl⟩ := h1
  obtain ⟨p, c, rfl, hl, hln⟩ := h2
  have HN := Lib.hid h
  have HP := Lib.hid hfm
  have HL := Lib.hid hl
  obtain ⟨qn, cn, pn, cp, rfl, _, _, n1, _, _, _, _⟩ := h
  obtain ⟨W2, hW2⟩ : ∃ W, W = (w.alloc (.cells #[.slice qn n.nodes.length cn, .slice pn n.fibers.length cp] 37)).alloc (.cells #[] 3) := ⟨_, rfl⟩
  have hf2 : Fresh w W2 := by rw [hW2]; exact fnew (fnew (frefl _) _) _
  have hr0 : RowAt W2 (w.heap.size + 1) 3 [] := by
    rw [hW2]
    have := RowAt.new (w.alloc (.cells #[.slice qn n.nodes.length cn, .slice pn n.fibers.length cp] 37)) 3 []
    simpa using this
  have HF2 := Lib.hid hf2
  have HW2 := Lib.hid hW2
  have HO2 : Hid (W2.ownsRow w.heap.size 3 1 (.slice (some ⟨w.heap.size + 1, 0, none⟩) 0 0) 0 []) := ownsRow_zero hr0 (by omega)
  have HC := Lib.hid (l10Costs_any (.agg #[.slice qn n.nodes.length cn, .slice pn n.fibers.length cp]) n pf cf fm p c l W2 (HN.out.keep hf2) (HP.out.keep hf2) hfl (HL.out.keep hf2) hln)
  unfold OutCo at HC
  have h12 := costL_len n fm l
  have HNO : Hid (costB n fm l = false → costL n fm l = []) := costL_no
  obtain ⟨M, hM⟩ : ∃ L, L = costL n fm l := ⟨_, rfl⟩
  obtain ⟨ok, hok⟩ : ∃ b, b = costB n fm l := ⟨_, rfl⟩
  rw [← hM, ← hok] at HC HNO
  rw [← hM] at h12
  rw [← hM, ← hok]
  have hsz := hf2.size
  clear hfm hl hf2 hr0 hW2 hM hok
  go_enter Tryz.func34, Tryz.ntmps34
  go_wp2_with fail
  rw [← HW2.out]
  refine (HC.out).mono ?_
  rintro e w3 ⟨L, q, k0, rfl, ho, hLM, hf⟩
  have HF3 := Lib.hid (fstep HF2.out hf)
  have HO3 := Lib.hid (ownsRow_keep HO2.out hf)
  have HCO := Lib.hid ho
  have HLM := Lib.hid hLM
  clear ho hf hLM HC
  cases ok
  · have HM := Lib.hid (HNO.out rfl)
    go_wp2
    go_ret2
    obtain ⟨q9, k9, e9, ho⟩ := own_of_row HO3.out
    cases e9
    exact ⟨_, _, by rw [HM.out]; rfl, by rw [HM.out]; exact ho, HF3.out⟩
  · obtain rfl : L = M := HLM.out rfl
    clear HLM HNO
    go_wp2
    go_loopw [8, 11] (fun o i wr => ∃ j : Nat, j ≤ L.length ∧ i = .int .i64 j ∧ wr.ownsRow w.heap.size 3 1 o (odT L j).length ((odT L j).map iv) ∧ Ints wr q L ∧ Fresh w wr) (fun _ i _ => L.length - (intOf i).toNat)
    case atStart => exact ⟨0, Nat.zero_le _, rfl, HO3.out, HCO.out.ints, HF3.out⟩
    case round =>
      obtain ⟨j, hj, rfl, hown, hci, hf⟩ := hrel
      obtain ⟨wo, rfl⟩ : ∃ wo, wo = wr := ⟨_, rfl⟩
      by_cases hlt : j < L.length
      · have hltz : (j : Int) < (L.length : Int) := by omega
        obtain ⟨qo, co, rfl, hoo, hco1, hco2⟩ := owns_cap hown
        rw [odT_len] at hco1 ⊢
        have HOO := Lib.hid hoo
        have HCI := Lib.hid hci
        have HF := Lib.hid hf
        obtain ⟨pos, hpos⟩ : ∃ k, k = insAt (ltO (cfO L)) (ordS (ltO (cfO L)) j) j j := ⟨_, rfl⟩
        have HPOS := Lib.hid hpos
        have hple : pos ≤ j := by rw [hpos]; exact insAt_le _ _ _ _
        have HSN : Hid (∀ i, i < j → ordS (ltO (cfO L)) j i < j) := fun i hi => ordS_lt _ hi
        clear hown hoo hci hf hpos
        go_wp2
        go_loopw [12] (fun v wr => ∃ k : Nat, k ≤ j ∧ v = .int .i64 k ∧ Hid (insAt (ltO (cfO L)) (ordS (ltO (cfO L)) j) j k = pos) ∧ Fresh wo wr) (fun v _ => (intOf v).toNat)
        case atStart => exact ⟨j, Nat.le_refl _, rfl, HPOS.out.symm, frefl _⟩
        case round =>
          obtain ⟨k, hkj, rfl, HIN, hfi⟩ := hrel
          have HFI := Lib.hid hfi
          have hstep : (0 < k ∧ ltO (cfO L) j (ordS (ltO (cfO L)) j (k - 1)) = true) ∨ k = pos := by
            have hin := HIN.out
            cases k with
            | zero => right; exact hin
            | succ kp =>
              cases hc : ltO (cfO L) j (ordS (ltO (cfO L)) j kp)
              · right
                unfold insAt at hin
                rw [if_neg (by rw [hc]; simp)] at hin
                exact hin
              · left; exact ⟨by omega, hc⟩
          rcases hstep with ⟨hk0, hcmp⟩ | hkp
          · obtain ⟨kp, hkp⟩ : ∃ kp, k = kp + 1 := ⟨k - 1, by omega⟩
            have ekp : k - 1 = kp := by omega
            rw [ekp] at hcmp
            have HIN2 : Hid (insAt (ltO (cfO L)) (ordS (ltO (cfO L)) j) j kp = pos) := by
              have hin := HIN.out
              rw [hkp] at hin
              unfold insAt at hin
              rwa [if_pos hcmp] at hin
            obtain ⟨m, hm⟩ : ∃ m, m = ordS (ltO (cfO L)) j kp := ⟨_, rfl⟩
            have hmj : m < j := by rw [hm]; exact HSN.out kp (by omega)
            rw [← hm, ltO_cfO] at hcmp
            obtain ⟨b1, o1, z, e1, hz, z0⟩ := (HOO.out.ints.keep hfi).at (k := kp) (by rw [odT_len]; omega)
            rw [odT_get (by omega), ← hm] at hz
            cases hz
            obtain ⟨b2, o2, x, e2, hx, x0⟩ := (HCI.out.keep hfi).at hlt
            obtain ⟨b3, o3, y, e3, hy, y0⟩ := (HCI.out.keep hfi).at (show m < L.length by omega)
            subst e1
            subst e2
            cases e3
            have hxy := of_decide_eq_true hcmp
            rw [kO_is hx, kO_is hy] at hxy
            have w1 : IntKind.i64.wrap ((k : Int) - 1) = (k : Int) - 1 := by rw [IntKind.wrap_i64] <;> omega
            have t1 : ((k : Int) - 1).toNat = kp := by omega
            have p1 : (0 : Int) ≤ (k : Int) - 1 := by omega
            have zk : (k : Int) - 1 < (j : Int) := by omega
            have zm : (m : Int) < (L.length : Int) := by omega
            have hk0z : (0 : Int) < (k : Int) := by omega
            have x0w := fun xa : After wr => akeep x0 xa
            have y0w := fun xa : After wr => akeep y0 xa
            have z0w := fun xa : After wr => akeep z0 xa
            have HKP := Lib.hid hkp
            clear hx hy hm hcmp hfi hkp ekp HIN
            go_wp2
            refine wp_region_after (by kernel_rfl) (by kernel_rfl) ?_
            repeat (go_big_quiet_step (fail))
            refine wpQuiet_nil ?_
            rintro _ ⟨xa, rfl⟩
            have HXA := Lib.hid xa.h
            clear x0 y0 z0 x0w y0w z0w
            go_wp2
            go_roundw
            case rel => exact ⟨kp, by have := HKP.out; omega, by have := HKP.out; rw [show (k : Int) - 1 = (kp : Int) by omega], HIN2.out, fstep HFI.out HXA.out⟩
            case measure => have := HKP.out; simp [intOf]; omega
          · have HIN3 := HIN.out
            have hcmpf : ∀ kp, k = kp + 1 → ltO (cfO L) j (ordS (ltO (cfO L)) j kp) = false := by
              intro kp e
              cases hc : ltO (cfO L) j (ordS (ltO (cfO L)) j kp)
              · rfl
              · exfalso
                rw [e] at HIN3 hkp
                unfold insAt at HIN3
                rw [if_pos hc] at HIN3
                have := insAt_le (ltO (cfO L)) (ordS (ltO (cfO L)) j) j kp
                omega
            clear HIN3 HIN
            subst hkp
            rcases Nat.eq_zero_or_pos k with hkz | hkz
            focus
              have hkd : ¬ (0 : Int) < (k : Int) := by omega
              have hkd2 : decide (0 < k) = false := decide_eq_false (by omega)
              clear hcmpf hfi hkz
              go_wp2
              refine wp_region_after (by kernel_rfl) (by kernel_rfl) ?_
              repeat (go_big_quiet_step (fail))
              refine wpQuiet_nil ?_
              rintro _ ⟨xa, rfl⟩
              have hxa := xa.h
              go_wp2
              clear hkd hkd2
            rotate_left
            focus
              obtain ⟨kp, hkp⟩ : ∃ kp, k = kp + 1 := ⟨k - 1, by omega⟩
              have hcmp := hcmpf kp hkp
              obtain ⟨m, hm⟩ : ∃ m, m = ordS (ltO (cfO L)) j kp := ⟨_, rfl⟩
              have hmj : m < j := by rw [hm]; exact HSN.out kp (by omega)
              rw [← hm, ltO_cfO] at hcmp
              obtain ⟨b1, o1, z, e1, hz, z0⟩ := (HOO.out.ints.keep hfi).at (k := kp) (by rw [odT_len]; omega)
              rw [odT_get (by omega), ← hm] at hz
              cases hz
              obtain ⟨b2, o2, x, e2, hx, x0⟩ := (HCI.out.keep hfi).at hlt
              obtain ⟨b3, o3, y, e3, hy, y0⟩ := (HCI.out.keep hfi).at (show m < L.length by omega)
              subst e1
              subst e2
              cases e3
              have hxy := of_decide_eq_false hcmp
              rw [kO_is hx, kO_is hy] at hxy
              have w1 : IntKind.i64.wrap ((k : Int) - 1) = (k : Int) - 1 := by rw [IntKind.wrap_i64] <;> omega
              have t1 : ((k : Int) - 1).toNat = kp := by omega
              have p1 : (0 : Int) ≤ (k : Int) - 1 := by omega
              have zk : (k : Int) - 1 < (j : Int) := by omega
              have zm : (m : Int) < (L.length : Int) := by omega
              have hk0z : (0 : Int) < (k : Int) := by omega
              have x0w := fun xa : After wr => akeep x0 xa
              have y0w := fun xa : After wr => akeep y0 xa
              have z0w := fun xa : After wr => akeep z0 xa
              clear hx hy hm hcmp hfi hkp hcmpf
              go_wp2
              refine wp_region_after (by kernel_rfl) (by kernel_rfl) ?_
              repeat (go_big_quiet_step (fail))
              refine wpQuiet_nil ?_
              rintro _ ⟨xa, rfl⟩
              have hxa := xa.h
              go_wp2
              clear x0 y0 z0 x0w y0w z0w hxy w1 t1 p1 zk zm hk0z hmj hkz
              obtain ⟨qo, hqo⟩ : ∃ q : Option Addr, q = some ⟨b1, o1, none⟩ := ⟨_, rfl⟩
              rw [← hqo] at HOO ⊢
              clear hqo
            all_goals (
              obtain ⟨W6, hW6⟩ : ∃ W, W = xa.w' := ⟨_, rfl⟩
              have hf6 : Fresh wo W6 := by rw [hW6]; exact fstep HFI.out hxa
              rw [← hW6]
              have HO6 := Lib.hid (HOO.out.keep hf6)
              have HCI6 := Lib.hid (HCI.out.keep hf6)
              have HF6 := Lib.hid (fstep HF.out hf6)
              clear hxa hf6 hW6
              have HTK : Hid ((((odT L j).take k).map iv).length = k * 1) := by show _ = _; rw [List.length_map, List.length_take, odT_len]; omega
              have HDK : Hid ((((odT L j).drop k).map iv).length = (j - k) * 1) := by show _ = _; rw [List.length_map, List.length_drop, odT_len]; omega
              have b1 : k ≤ co := by omega
              have n1 : k ≤ 1048576 := by omega
              have n2 : j - k ≤ 1048576 := by omega
              obtain ⟨A, hA, hPB⟩ : ∃ A : Option Addr, (∀ W, Own W w.heap.size 3 qo ((odT L j).map iv) → Cells W A (((odT L j).drop k).map iv)) ∧ ((qo = none ∧ A = none) ∨ ∃ g, qo = some ⟨g, 0, none⟩ ∧ A = if co = k then (some (⟨g, 0, none⟩ : Addr)) else some ⟨g, k, none⟩) := by
                rcases HO6.out with ⟨rfl, h0⟩ | ⟨g, sp, rfl, _, hW⟩
                · refine ⟨none, fun W hW => ?_, Or.inl ⟨rfl, rfl⟩⟩
                  left
                  have h2 : odT L j = [] := List.map_eq_nil_iff.1 h0
                  rw [h2]; simp
                · exact ⟨_, fun W hW => partI_b (by rw [odT_len]; exact hkj) (by rw [odT_len]; exact hco1) hW, Or.inr ⟨g, rfl, rfl⟩⟩
              have HPB := Lib.hid hA
              clear hA
              rcases hPB with ⟨rfl, rfl⟩ | ⟨g, rfl, hA⟩
              rotate_left
              focus
                have hA' := hA.symm
                clear hA
              all_goals (
              refine hd_start (n := 12) (S := fun _ => True) (by kernel_rfl) (by kernel_rfl) trivial (fun hHeld => ?_)
              obtain ⟨c0, hc0⟩ : ∃ W, W = W6.drew := ⟨_, rfl⟩
              rw [← hc0]
              have fc0 : Fresh W6 c0 := by rw [hc0]; exact fdrew (frefl _)
              clear hc0
              refine hd_take (i := 1) (v := ?_) rfl (by kernel_rfl) (by kernel_rfl) (by kernel_rfl) (by kernel_rfl) (fun _ _ _ h => h) (by assumption) (Or.inl ⟨by rfl, ?_⟩) ?_
              rotate_left
              · (intro w hSw; (try dsimp only at hSw); go_simp; first | done | with_reducible rfl)
              try simp only [Act.put, List.getElem_toArray, List.getElem_cons_succ, List.getElem_cons_zero, List.setIfInBounds_toArray, List.set_cons_zero, List.set_cons_succ]
              refine hd_take (i := 2) (v := ?_) rfl (by kernel_rfl) (by kernel_rfl) (by kernel_rfl) (by kernel_rfl) (fun _ _ _ h => h) (by assumption) (Or.inl ⟨by rfl, ?_⟩) ?_
              rotate_left
              · (intro w hSw; (try dsimp only at hSw); go_simp; first | done | with_reducible rfl)
              try simp only [Act.put, List.getElem_toArray, List.getElem_cons_succ, List.getElem_cons_zero, List.setIfInBounds_toArray, List.set_cons_zero, List.set_cons_succ]
              refine hd_take (i := 3) (v := ?_) rfl (by kernel_rfl) (by kernel_rfl) (by kernel_rfl) (by kernel_rfl) (fun _ _ _ h => h) (by assumption) (Or.inl ⟨by rfl, ?_⟩) ?_
              rotate_left
              · (intro w hSw; (try dsimp only at hSw); go_simp; first | done | with_reducible rfl)
              try simp only [Act.put, List.getElem_toArray, List.getElem_cons_succ, List.getElem_cons_zero, List.setIfInBounds_toArray, List.set_cons_zero, List.set_cons_succ]
              refine hd_take (i := 5) (v := ?_) rfl (by kernel_rfl) (by kernel_rfl) (by kernel_rfl) (by kernel_rfl) (fun _ _ _ h => h) (by assumption) (Or.inl ⟨by rfl, ?_⟩) ?_
              rotate_left
              · (intro w hSw; (try dsimp only at hSw); go_simp; first | done | with_reducible rfl)
              try simp only [Act.put, List.getElem_toArray, List.getElem_cons_succ, List.getElem_cons_zero, List.setIfInBounds_toArray, List.set_cons_zero, List.set_cons_succ]
              refine hd_take (i := 8) (v := ?_) rfl (by kernel_rfl) (by kernel_rfl) (by kernel_rfl) (by kernel_rfl) (fun _ _ _ h => h) (by assumption) (Or.inl ⟨by rfl, ?_⟩) ?_
              rotate_left
              · (intro w hSw; (try dsimp only at hSw); go_simp; first | done | with_reducible rfl)
              try simp only [Act.put, List.getElem_toArray, List.getElem_cons_succ, List.getElem_cons_zero, List.setIfInBounds_toArray, List.set_cons_zero, List.set_cons_succ]
              refine hd_take (i := 9) (v := ?_) rfl (by kernel_rfl) (by kernel_rfl) (by kernel_rfl) (by kernel_rfl) (fun _ _ _ h => h) (by assumption) (Or.inl ⟨by rfl, ?_⟩) ?_
              rotate_left
              · (intro w hSw; (try dsimp only at hSw); go_simp; first | done | with_reducible rfl)
              try simp only [Act.put, List.getElem_toArray, List.getElem_cons_succ, List.getElem_cons_zero, List.setIfInBounds_toArray, List.set_cons_zero, List.set_cons_succ]
              refine hd_take (i := 10) (v := ?_) rfl (by kernel_rfl) (by kernel_rfl) (by kernel_rfl) (by kernel_rfl) (fun _ _ _ h => h) (by assumption) (Or.inl ⟨by rfl, ?_⟩) ?_
              rotate_left
              · (intro w hSw; (try dsimp only at hSw); go_simp; first | done | with_reducible rfl)
              try simp only [Act.put, List.getElem_toArray, List.getElem_cons_succ, List.getElem_cons_zero, List.setIfInBounds_toArray, List.set_cons_zero, List.set_cons_succ]
              refine hd_ready (rs := [0, 6]) (by kernel_rfl) (by simp) ?_
              refine hd_cons (i := 0) rfl (by kernel_rfl) (fun K hK => ?_) ?_
              focus
                go_simp
                obtain ⟨wa, hwa⟩ : ∃ W, W = c0.alloc (.cells #[] 3) := ⟨_, rfl⟩
                rw [← hwa]
                have fa : Fresh W6 wa := by rw [hwa]; exact fnew fc0 _
                obtain ⟨ga, hga⟩ : ∃ g, g = c0.heap.size := ⟨_, rfl⟩
                have ra : RowAt wa ga 3 [] := by rw [hwa, hga]; exact RowAt.new _ _ _
                have hgl : W6.heap.size ≤ ga := by rw [hga]; exact fc0.size
                rw [← hga]
                have hal : c0.heap.size ≤ ga := by rw [hga]; exact Nat.le_refl _
                clear hwa hga
                refine hK.out _ _ trivial (fun hHeld => ?_)
                clear hK K
                try simp only [Act.put, List.getElem_toArray, List.getElem_cons_succ, List.getElem_cons_zero, List.setIfInBounds_toArray, List.set_cons_zero, List.set_cons_succ]
                refine hd_ready (rs := [4, 6]) (by kernel_rfl) (by simp) ?_
                refine hd_cons (i := 4) rfl (by kernel_rfl) (fun K hK => ?_) ?_
                focus
                  refine step_app_mm (some 55) rfl Tryz.underlying32 infoInt rfl (by decide) (by decide) W6 (.slice (some ⟨ga, 0, none⟩) 0 0) 0 [] _ k co (((odT L j).take k).map iv) rfl _ _ rfl rfl (ownsRow_zero ra hgl) rfl (partI_a k (HO6.out.keep fa)) HTK.out (ones_iv _) (by omega) n1 fa ?_
                  rw [Nat.zero_add, List.nil_append]
                  intro q1 c1 x1 own1 f1 hk1
                  clear hk1
                  refine hK.out _ _ trivial (fun hHeld => ?_)
                  clear hK K
                  try simp only [Act.put, List.getElem_toArray, List.getElem_cons_succ, List.getElem_cons_zero, List.setIfInBounds_toArray, List.set_cons_zero, List.set_cons_succ]
                  refine hd_one (i := 6) rfl (by kernel_rfl) (by kernel_rfl) (fun K hK => ?_)
                  go_simp
                  obtain ⟨x3, hwb⟩ : ∃ W, W = x1.alloc (.cells #[.int .i64 (j : Int)] 3) := ⟨_, rfl⟩
                  rw [← hwb]
                  have f3 : Fresh W6 x3 := by rw [hwb]; exact fnew f1 _
                  obtain ⟨gb, hgb⟩ : ∃ g, g = x1.heap.size := ⟨_, rfl⟩
                  have rb : RowAt x3 gb 3 [iv (j : Int)] := by rw [hwb, hgb]; exact RowAt.new _ _ _
                  rw [← hgb]
                  have own3 := ownsRow_keep own1 (show Fresh x1 x3 by rw [hwb]; exact fnew (frefl _) _)
                  clear hwb hgb
                  refine hK.out _ _ trivial (fun hHeld => ?_)
                  clear hK K
                  try simp only [Act.put, List.getElem_toArray, List.getElem_cons_succ, List.getElem_cons_zero, List.setIfInBounds_toArray, List.set_cons_zero, List.set_cons_succ]
                  clear own1 f1 fa ra hal hgl
                rotate_left
                focus
                  refine hd_cons (i := 6) rfl (by kernel_rfl) (fun K hK => ?_) hd_nil
                  go_simp
                  obtain ⟨x1, hwb⟩ : ∃ W, W = wa.alloc (.cells #[.int .i64 (j : Int)] 3) := ⟨_, rfl⟩
                  rw [← hwb]
                  have f1 : Fresh W6 x1 := by rw [hwb]; exact fnew fa _
                  obtain ⟨gb, hgb⟩ : ∃ g, g = wa.heap.size := ⟨_, rfl⟩
                  have rb1 : RowAt x1 gb 3 [iv (j : Int)] := by rw [hwb, hgb]; exact RowAt.new _ _ _
                  rw [← hgb]
                  have ra1 := ra.keep (show Fresh wa x1 by rw [hwb]; exact fnew (frefl _) _)
                  have hne : ga ≠ gb := by have := ra.lt; omega
                  clear hwb hgb
                  refine hK.out _ _ trivial (fun hHeld => ?_)
                  clear hK K
                  try simp only [Act.put, List.getElem_toArray, List.getElem_cons_succ, List.getElem_cons_zero, List.setIfInBounds_toArray, List.set_cons_zero, List.set_cons_succ]
                  refine hd_one (i := 4) rfl (by kernel_rfl) (by kernel_rfl) (fun K hK => ?_)
                  refine step_app_mm (some 55) rfl Tryz.underlying32 infoInt rfl (by decide) (by decide) W6 (.slice (some ⟨ga, 0, none⟩) 0 0) 0 [] _ k co (((odT L j).take k).map iv) rfl _ _ rfl rfl (ownsRow_zero ra1 hgl) rfl (partI_a k (HO6.out.keep f1)) HTK.out (ones_iv _) (by omega) n1 f1 ?_
                  rw [Nat.zero_add, List.nil_append]
                  intro q1 c1 x3 own3 f3 hk1
                  have rb := hk1 _ _ _ rb1 (Or.inr fun e => hne (by simpa [Value.ownBlock] using e))
                  clear hk1
                  refine hK.out _ _ trivial (fun hHeld => ?_)
                  clear hK K
                  try simp only [Act.put, List.getElem_toArray, List.getElem_cons_succ, List.getElem_cons_zero, List.setIfInBounds_toArray, List.set_cons_zero, List.set_cons_succ]
                  clear f1 fa ra ra1 rb1 hne hal hgl
              rotate_left 2
              focus
                refine hd_cons (i := 6) rfl (by kernel_rfl) (fun K hK => ?_) hd_nil
                go_simp
                obtain ⟨wb, hwb⟩ : ∃ W, W = c0.alloc (.cells #[.int .i64 (j : Int)] 3) := ⟨_, rfl⟩
                rw [← hwb]
                have fb : Fresh W6 wb := by rw [hwb]; exact fnew fc0 _
                obtain ⟨gb, hgb⟩ : ∃ g, g = c0.heap.size := ⟨_, rfl⟩
                have rb0 : RowAt wb gb 3 [iv (j : Int)] := by rw [hwb, hgb]; exact RowAt.new _ _ _
                rw [← hgb]
                clear hwb hgb
                refine hK.out _ _ trivial (fun hHeld => ?_)
                clear hK K
                try simp only [Act.put, List.getElem_toArray, List.getElem_cons_succ, List.getElem_cons_zero, List.setIfInBounds_toArray, List.set_cons_zero, List.set_cons_succ]
                refine hd_one (i := 0) rfl (by kernel_rfl) (by kernel_rfl) (fun K hK => ?_)
                go_simp
                obtain ⟨x1, hwa⟩ : ∃ W, W = wb.alloc (.cells #[] 3) := ⟨_, rfl⟩
                rw [← hwa]
                have f1 : Fresh W6 x1 := by rw [hwa]; exact fnew fb _
                obtain ⟨ga, hga⟩ : ∃ g, g = wb.heap.size := ⟨_, rfl⟩
                have ra : RowAt x1 ga 3 [] := by rw [hwa, hga]; exact RowAt.new _ _ _
                have hgl : W6.heap.size ≤ ga := by rw [hga]; exact fb.size
                rw [← hga]
                have hal : wb.heap.size ≤ ga := by rw [hga]; exact Nat.le_refl _
                have rb1 := rb0.keep (show Fresh wb x1 by rw [hwa]; exact fnew (frefl _) _)
                have hne : ga ≠ gb := by have := rb0.lt; omega
                clear hwa hga
                refine hK.out _ _ trivial (fun hHeld => ?_)
                clear hK K
                try simp only [Act.put, List.getElem_toArray, List.getElem_cons_succ, List.getElem_cons_zero, List.setIfInBounds_toArray, List.set_cons_zero, List.set_cons_succ]
                refine hd_one (i := 4) rfl (by kernel_rfl) (by kernel_rfl) (fun K hK => ?_)
                refine step_app_mm (some 55) rfl Tryz.underlying32 infoInt rfl (by decide) (by decide) W6 (.slice (some ⟨ga, 0, none⟩) 0 0) 0 [] _ k co (((odT L j).take k).map iv) rfl _ _ rfl rfl (ownsRow_zero ra hgl) rfl (partI_a k (HO6.out.keep f1)) HTK.out (ones_iv _) (by omega) n1 f1 ?_
                rw [Nat.zero_add, List.nil_append]
                intro q1 c1 x3 own3 f3 hk1
                have rb := hk1 _ _ _ rb1 (Or.inr fun e => hne (by simpa [Value.ownBlock] using e))
                clear hk1
                refine hK.out _ _ trivial (fun hHeld => ?_)
                clear hK K
                try simp only [Act.put, List.getElem_toArray, List.getElem_cons_succ, List.getElem_cons_zero, List.setIfInBounds_toArray, List.set_cons_zero, List.set_cons_succ]
                clear f1 fb ra rb0 rb1 hne hal hgl
              all_goals (
                refine hd_one (i := 7) rfl (by kernel_rfl) (by kernel_rfl) (fun K hK => ?_)
                (refine step_app_mm (some 58) rfl Tryz.underlying32 infoInt rfl (by decide) (by decide) W6 _ k (((odT L j).take k).map iv) (some ⟨gb, 0, none⟩) 1 1 [iv (j : Int)] rfl _ _ rfl rfl own3 rfl rb.cells rfl (by intro u hu; simp at hu; subst hu; rfl) n1 (by decide) f3 ?_; intro q4 c4 x4 own4 f4 hk4)
                refine hK.out _ _ ?_ (fun hHeld => ?_)
                · trivial
                clear hK K
                try simp only [Act.put, List.getElem_toArray, List.getElem_cons_succ, List.getElem_cons_zero, List.setIfInBounds_toArray, List.set_cons_zero, List.set_cons_succ]
                refine hd_one (i := 11) rfl (by kernel_rfl) (by kernel_rfl) (fun K hK => ?_)
                (refine step_app_mm (some 62) rfl Tryz.underlying32 infoInt rfl (by decide) (by decide) W6 _ (k + 1) (((odT L j).take k).map iv ++ [iv (j : Int)]) _ (j - k) (co - k) (((odT L j).drop k).map iv) rfl _ _ rfl rfl own4 rfl (HPB.out _ (HO6.out.keep f4)) HDK.out (ones_iv _) (by omega) n2 f4 ?_; intro q5 c5 x5 own5 f5 hk5)
                refine hK.out _ _ ?_ (fun hHeld => ?_)
                · trivial
                clear hK K
                try simp only [Act.put, List.getElem_toArray, List.getElem_cons_succ, List.getElem_cons_zero, List.setIfInBounds_toArray, List.set_cons_zero, List.set_cons_succ]
                refine hd_done (by kernel_rfl) ?_
                clear hHeld
                simp only [List.drop_succ_cons, List.drop_zero]
                have HO5 := Lib.hid own5
                have HF5 := Lib.hid f5
                clear own5 f5 own4 f4 own3 f3 rb hk4 hk5 fc0
                go_wp2
                go_roundw
                case rel =>
                  refine ⟨j + 1, hlt, by go_num, ?_, HCI6.out.keep HF5.out, fstep HF6.out HF5.out⟩
                  have ho := HO5.out
                  rw [← List.map_singleton (f := iv), ← List.map_append, ← List.map_append, odT_step HPOS.out] at ho
                  rw [odT_len]
                  have e9 : k + 1 + (j - k) = j + 1 := by omega
                  rw [e9] at ho ⊢
                  exact owns_mono ho HF6.out.size
                case measure => simp [intOf]; omega)))
      · have hltz : ¬ (j : Int) < (L.length : Int) := by omega
        have hje : j = L.length := by omega
        subst hje
        have HO := Lib.hid hown
        have HF := Lib.hid hf
        clear hown hf
        go_wp2
        go_ret2
        obtain ⟨q9, k9, e9, ho⟩ := own_of_row HO.out
        subst e9
        first | exact ⟨_, _, rfl, ho, HF.out⟩ | exact ⟨_, ⟨_, rfl⟩, ho, HF.out⟩
end Go.Proofs.YtlcppdbpajdnlaaGreat
