/- Contracts: the pairs of nodes without a pair of routes, both sides. (Printed by gen_up.py.) -/
import Derived.Test.YtlapicgeokjpjaaGreatUpP
namespace Go.Proofs.YtlapicgeokjpjaaGreat
open Go.RowKit Go.PlainAid

theorem ownS_lt {w : World} {base : Nat} {l : List LI} (h : OwnS w base l) : ∀ y ∈ l, ∀ g o, y.q = some ⟨g, o, none⟩ → g < w.heap.size := by
  intro y hy g o e
  rcases h y hy with ⟨h0, _⟩ | ⟨b, sp, h1, h2, h3⟩
  · rw [h0] at e; cases e
  · rw [h1] at e; cases e; exact h3.lt
theorem Dist.none : Dist [] := by intro i j x y _ hx; simp at hx
theorem ownSS_nil (w : World) (base : Nat) : OwnSS w base (.slice none 0 0) [] := ⟨none, 0, [], rfl, rfl, Or.inl ⟨rfl, rfl⟩, fun x hx => by simp at hx, Dist.none⟩
theorem ownSS_new {w : World} {base : Nat} (h : base ≤ w.heap.size) : OwnSS (w.alloc (.cells #[] 37)) base (.slice (some ⟨w.heap.size, 0, none⟩) 0 0) [] := ⟨_, 0, [], rfl, rfl, Or.inr ⟨w.heap.size, [], rfl, h, RowAt.new w _ []⟩, fun x hx => by simp at hx, Dist.none⟩
theorem dU_of {n : Net} {k : Int} {a b : Nat} {c : Int} (h : (countF n a b k).1 = c) : dU n k a b = (c == 0) := by
  unfold dU
  rw [h]
  by_cases hc : c = 0
  · simp [hc]
  · simp [hc]
set_option maxHeartbeats 4000000 in
set_option maxRecDepth 20000 in
theorem implUnprotectedPairs_any (v : Value) (n : Net) (k : Int) (w : World) (h : NetIn w v n) :
    Calls Tryz.prog 7 #[v, .int .i64 k] w fun e w' => ∃ v', e = .returned (.tuple #[v', .bool (upF n k).2]) ∧ OwnSS w' w.heap.size v' (upF n k).1 ∧ Fresh w w' := by
  have HN := Lib.hid h
  obtain ⟨qn, cn, pn, cp, rfl, _, _, n1, _, _, _, _⟩ := h
  obtain ⟨W2, hW2⟩ : ∃ W, W = w.alloc (.cells #[.slice qn n.nodes.length cn, .slice pn n.fibers.length cp] 27) := ⟨_, rfl⟩
  have hf2 : Fresh w W2 := by rw [hW2]; exact fnew (frefl _) _
  have r1 : RowAt W2 w.heap.size 27 [.slice qn n.nodes.length cn, .slice pn n.fibers.length cp] := by rw [hW2]; exact RowAt.new _ _ _
  have HF2 := Lib.hid hf2
  have HR1 := Lib.hid r1
  have HW2 := Lib.hid hW2
  have HGD := Lib.hid (implIsValidNetwork_any _ n W2 (HN.out.keep hf2))
  have HKI := Lib.hid (isKind_any k)
  clear hf2 r1 hW2
  cases hnet : netB n
  · have HDEF := Lib.hid (upF_no (n := n) (k := k) (by unfold upB; rw [hnet]; rfl))
    rw [hnet] at HGD
    clear hnet
    go_enter Tryz.func7, Tryz.ntmps7
    go_wp2_with fail
    rw [← HW2.out]
    refine (HGD.out).mono ?_
    rintro e w3 ⟨rfl, hf⟩
    have HF := Lib.hid (fstep HF2.out hf)
    have HFF := Lib.hid hf
    clear hf HGD
    go_wp2
    go_ret2
    exact ⟨.slice none 0 0, by rw [HDEF.out]; (first | done | rfl), by rw [HDEF.out]; exact ownSS_nil _ _, HF.out⟩
  · have HNET := Lib.hid hnet
    rw [hnet] at HGD
    cases hkb : kindB k
    · have HDEF := Lib.hid (upF_no (n := n) (k := k) (by unfold upB; rw [hkb, Bool.and_false]))
      rw [hkb] at HKI
      clear hnet hkb
      go_enter Tryz.func7, Tryz.ntmps7
      go_wp2_with fail
      rw [← HW2.out]
      refine (HGD.out).mono ?_
      rintro e w3 ⟨rfl, hf⟩
      have HF := Lib.hid (fstep HF2.out hf)
      have HFF := Lib.hid hf
      clear hf HGD
      go_wp2_with (go_at_call 23; refine (HKI.out _).mono ?_; rintro e w4 ⟨rfl, rfl⟩)
      go_ret2
      exact ⟨.slice none 0 0, by rw [HDEF.out]; (first | done | rfl), by rw [HDEF.out]; exact ownSS_nil _ _, HF.out⟩
    · have HUP : Hid (upB n k = true) := by show _ = _; unfold upB; rw [hnet, hkb]; rfl
      have h8 := (net_at hnet).1
      have HTL : Hid (∀ i, (toI (dU n k) n.nodes.length i).length ≤ i * n.nodes.length) := fun i => toI_len _ _ i
      have HRL : Hid (∀ i m, (rowI (dU n k) i m).length ≤ m) := fun i m => rowI_len _ i m
      rw [hkb] at HKI
      clear hnet hkb
      go_enter Tryz.func7, Tryz.ntmps7
      go_wp2_with fail
      rw [← HW2.out]
      refine (HGD.out).mono ?_
      rintro e w3 ⟨rfl, hf⟩
      have HF := Lib.hid (fstep HF2.out hf)
      have HR3 := Lib.hid (HR1.out.keep hf)
      have HSZ3 := Lib.hid HF.out.size
      have HR4 : Hid (RowAt (w3.alloc (.cells #[] 37)) w.heap.size 27 [.slice qn n.nodes.length cn, .slice pn n.fibers.length cp]) := HR3.out.keep (fnew (frefl _) _)
      have HO0 : Hid ((w3.alloc (.cells #[] 37)).ownsRow w.heap.size 37 1 (.slice (some ⟨w3.heap.size, 0, none⟩) 0 0) 0 []) := ownsRow_zero (RowAt.new w3 _ []) HSZ3.out
      have HF4 := Lib.hid (fnew HF.out (.cells #[] 37))
      have c0 := HR4.out.cell (i := 0) rfl
      have c0' := HR3.out.cell (i := 0) rfl
      clear hf HGD
      go_wp2_with (go_at_call 23; refine (HKI.out _).mono ?_; rintro e w4 ⟨rfl, rfl⟩)
      go_loopw [6, 23] (fun o i wr => ∃ (j : Nat) (I : List LI), j ≤ n.nodes.length ∧ i = .int .i64 j ∧ wr.ownsRow w.heap.size 37 1 o I.length (I.map liV) ∧ OwnS wr w.heap.size I ∧ Dist I ∧ I.map LI.xs = (toI (dU n k) n.nodes.length j).map pI ∧ (∀ a b : Nat, a < j → a < b → b < n.nodes.length → okU n k a b = true) ∧ Fresh w wr ∧ RowAt wr w.heap.size 27 [.slice qn n.nodes.length cn, .slice pn n.fibers.length cp]) (fun _ i _ => n.nodes.length - (intOf i).toNat)
      case atStart => exact ⟨0, [], Nat.zero_le _, rfl, HO0.out, fun x hx => by simp at hx, Dist.none, rfl, fun a b h => by omega, HF4.out, HR4.out⟩
      case round =>
        obtain ⟨i, I, hi', rfl, hown, hos, hds, hval, hall, hf, hrn⟩ := hrel
        obtain ⟨wo, rfl⟩ : ∃ W, W = wr := ⟨_, rfl⟩
        have HO := Lib.hid hown
        have HOS := Lib.hid hos
        have HDS := Lib.hid hds
        have HVL := Lib.hid hval
        have HAL := Lib.hid hall
        have HFI := Lib.hid hf
        have HRN := Lib.hid hrn
        have d0 := hrn.cell (i := 0) rfl
        clear hown hos hds hval hall hf hrn
        by_cases hlt : i < n.nodes.length
        · have hltz : (i : Int) < (n.nodes.length : Int) := by omega
          have hw1 : IntKind.i64.wrap ((i : Int) + 1) = (i : Int) + 1 := by rw [IntKind.wrap_i64]; omega
          go_wp2
          clear hw1 hltz d0
          go_loopw [6, 8] (fun o b wr => ∃ (m : Nat) (I2 : List LI), i + 1 ≤ m ∧ m ≤ n.nodes.length ∧ b = .int .i64 m ∧ wr.ownsRow w.heap.size 37 1 o I2.length (I2.map liV) ∧ OwnS wr w.heap.size I2 ∧ Dist I2 ∧ I2.map LI.xs = (toI (dU n k) n.nodes.length i ++ rowI (dU n k) i m).map pI ∧ (∀ b : Nat, i < b → b < m → okU n k i b = true) ∧ Fresh w wr ∧ RowAt wr w.heap.size 27 [.slice qn n.nodes.length cn, .slice pn n.fibers.length cp]) (fun _ b _ => n.nodes.length - (intOf b).toNat)
          case atStart => exact ⟨i + 1, I, Nat.le_refl _, by omega, by go_num, HO.out, HOS.out, HDS.out, by rw [rowI_low, List.append_nil]; exact HVL.out, fun b h1 h2 => by omega, HFI.out, HRN.out⟩
          case round =>
            obtain ⟨m, I2, hm1, hm2, rfl, hown, hos, hds, hval, hall, hf, hrn⟩ := hrel
            have hI2 : I2.length ≤ 1048576 := by
              have h1 := congrArg List.length hval
              rw [List.length_map, List.length_map, List.length_append] at h1
              have h2 := HTL.out i
              have h3 := HRL.out i m
              have h4 : i * n.nodes.length ≤ 8 * 8 := Nat.mul_le_mul (by omega) h8
              omega
            have HO2 := Lib.hid hown
            have HOS2 := Lib.hid hos
            have HDS2 := Lib.hid hds
            have HVL2 := Lib.hid hval
            have HAL2 := Lib.hid hall
            have HF2' := Lib.hid hf
            have HRN2 := Lib.hid hrn
            have d0 := hrn.cell (i := 0) rfl
            have d1 := hrn.cell (i := 1) rfl
            clear hown hos hds hval hall hf hrn
            by_cases hlt2 : m < n.nodes.length
            · have hltz : (m : Int) < (n.nodes.length : Int) := by omega
              have HCP := Lib.hid (implCountPairs_any _ n (i : Int) (m : Int) k wr (HN.out.keep HF2'.out))
              obtain ⟨cc, hcc⟩ : ∃ c, c = (countF n i m k).1 := ⟨_, rfl⟩
              obtain ⟨bb, hbb⟩ : ∃ b, b = (countF n i m k).2 := ⟨_, rfl⟩
              rw [← hcc, ← hbb] at HCP
              have HOKU : Hid (okU n k i m = bb) := by show _ = _; rw [hbb]; rfl
              have HDU := Lib.hid (dU_of hcc.symm)
              clear hcc hbb
              go_wp2_with fail
              refine (HCP.out).mono ?_
              rintro e w5 ⟨rfl, hf5⟩
              have HF5 := Lib.hid hf5
              clear hf5 HCP d0 d1
              cases bb
              · have HDEF := Lib.hid (upF_bad (n := n) (k := k) (show i < m by omega) hlt2 HOKU.out)
                have HFF := Lib.hid (fstep HF2'.out HF5.out)
                go_wp2
                go_ret2
                exact ⟨.slice none 0 0, by rw [HDEF.out]; (first | done | rfl), by rw [HDEF.out]; exact ownSS_nil _ _, HFF.out⟩
              · have HAL3 : Hid (∀ b : Nat, i < b → b < m + 1 → okU n k i b = true) := by
                  intro b h1 h2
                  rcases Nat.eq_or_lt_of_le (show b ≤ m by omega) with h' | h'
                  · subst h'; exact HOKU.out
                  · exact HAL2.out b h1 h'
                cases hd : (cc == 0)
                · rw [hd] at HDU
                  go_wp2
                  go_roundw
                  case rel => exact ⟨m + 1, I2, by omega, by omega, by go_num, ownsRow_keep HO2.out HF5.out, HOS2.out.keep HF5.out, HDS2.out, by rw [rowI_none HDU.out]; exact HVL2.out, HAL3.out, fstep HF2'.out HF5.out, HRN2.out.keep HF5.out⟩
                  case measure => simp [intOf]; omega
                · rw [hd] at HDU
                  have hf6 : Fresh w5 (w5.alloc (.cells #[.int .i64 (i : Int), .int .i64 (m : Int)] 3)) := fnew (frefl _) _
                  have hr6 : RowAt (w5.alloc (.cells #[.int .i64 (i : Int), .int .i64 (m : Int)] 3)) w5.heap.size 3 [iv (i : Int), iv (m : Int)] := RowAt.new _ _ _
                  have hown6 := ownsRow_keep HO2.out (fstep HF5.out hf6)
                  have HF6 := Lib.hid (fstep HF2'.out (fstep HF5.out hf6))
                  have HOS6 := Lib.hid (HOS2.out.keep (fstep HF5.out hf6))
                  have HRN6 := Lib.hid (HRN2.out.keep (fstep HF5.out hf6))
                  have HR6 := Lib.hid hr6
                  have HSZ := Lib.hid (fstep HF2'.out HF5.out).size
                  have HLT := Lib.hid (ownS_lt (HOS2.out.keep HF5.out))
                  clear hf6 hr6
                  go_wp2_with (at_builtin; refine wpList_app_g Tryz.underlying30 infoIs rfl (by decide) (by decide) w _ _ I2.length (I2.map liV) [liV ⟨some ⟨w5.heap.size, 0, none⟩, 2, pI (i, m)⟩] _ rfl (by intro u hu; simp at hu; subst hu; rfl) rfl _ _ rfl rfl hown6 rfl (by simp) (by omega) HF6.out ?_; intro v' w3' hown3 hf3 hkp)
                  have HO3 := Lib.hid hown3
                  have HF3 := Lib.hid hf3
                  have HK3 := Lib.hid hkp
                  clear hown3 hf3 hkp hown6 hd
                  go_wp2
                  go_roundw
                  case rel => exact ⟨m + 1, I2 ++ [⟨some ⟨w5.heap.size, 0, none⟩, 2, pI (i, m)⟩], by omega, by omega, by go_num, by rw [List.map_append, List.length_append]; exact HO3.out, (HOS6.out.grown HK3.out (by decide)).snoc (Or.inr ⟨w5.heap.size, [], rfl, HSZ.out, by rw [List.append_nil]; exact HK3.out _ _ _ HR6.out (by decide)⟩), HDS2.out.snoc (fun y hy g o h' o' e1 e2 => by have := HLT.out y hy h' o' e2; cases e1; omega), by rw [rowI_some (by omega) HDU.out, ← List.append_assoc, List.map_append, List.map_append (f := pI), HVL2.out]; rfl, HAL3.out, HF3.out, HK3.out _ _ _ HRN6.out (by decide)⟩
                  case measure => simp [intOf]; omega
            · have hmn : m = n.nodes.length := by omega
              have hltz : ¬ (m : Int) < (n.nodes.length : Int) := by omega
              have HVL3 : Hid (I2.map LI.xs = (toI (dU n k) n.nodes.length (i + 1)).map pI) := by
                show _ = _
                rw [toI_succ, HVL2.out, hmn]
              have HAL3 : Hid (∀ a b : Nat, a < i + 1 → a < b → b < n.nodes.length → okU n k a b = true) := by
                intro a b h1 h2 h3
                rcases Nat.eq_or_lt_of_le (show a ≤ i by omega) with h' | h'
                · subst h'; exact HAL2.out b h2 (by omega)
                · exact HAL.out a b h' h2 h3
              clear hmn d1
              go_wp2
              go_roundw
              case rel => exact ⟨i + 1, I2, by omega, by go_num, HO2.out, HOS2.out, HDS2.out, HVL3.out, HAL3.out, HF2'.out, HRN2.out⟩
              case measure => simp [intOf]; omega
        · have hjn : i = n.nodes.length := by omega
          have hltz : ¬ (i : Int) < (n.nodes.length : Int) := by omega
          have HDEF := Lib.hid (upF_yes HUP.out (fun a b h1 h2 => HAL.out a b (by omega) h1 h2))
          have HVL3 : Hid (I.map LI.xs = upL n k) := by show _ = _; rw [HVL.out, hjn]; rfl
          obtain ⟨pv, cv, rfl, hoo, _, _⟩ := owns_cap HO.out
          have HOO := Lib.hid hoo
          clear hjn hoo
          go_wp2
          go_ret2
          exact ⟨.slice pv I.length cv, by rw [HDEF.out]; (first | done | rfl), by rw [HDEF.out]; exact ⟨pv, cv, I, rfl, HVL3.out, HOO.out, HOS.out, HDS.out⟩, HFI.out⟩
set_option maxHeartbeats 4000000 in
set_option maxRecDepth 20000 in
theorem specUnprotectedPairs_any (v : Value) (n : Net) (k : Int) (w : World) (h : NetIn w v n) :
    Calls Tryz.prog 8 #[v, .int .i64 k] w fun e w' => ∃ v', e = .returned (.tuple #[v', .bool (upF n k).2]) ∧ OwnSS w' w.heap.size v' (upF n k).1 ∧ Fresh w w' := by
  have HN := Lib.hid h
  obtain ⟨qn, cn, pn, cp, rfl, _, _, n1, _, _, _, _⟩ := h
  obtain ⟨W2, hW2, hsz2, hf2, r1, r2⟩ := two_rows w [.slice qn n.nodes.length cn, .slice pn n.fibers.length cp] [] 27 37
  have HOE := Lib.hid (show Own W2 w.heap.size 37 (some ⟨w.heap.size + 1, 0, none⟩) [] from Or.inr ⟨w.heap.size + 1, [], rfl, by omega, r2⟩)
  have HO0 := Lib.hid (show W2.ownsRow w.heap.size 37 1 (.slice (some ⟨w.heap.size + 1, 0, none⟩) 0 0) 0 [] from ownsRow_zero r2 (by omega))
  clear r2 hsz2
  have HF2 := Lib.hid hf2
  have HR1 := Lib.hid r1
  have HW2 := Lib.hid hW2
  have HGD := Lib.hid (l2Good_any _ n W2 (HN.out.keep hf2))
  have HKI := Lib.hid (l7Kind_any k)
  clear hf2 r1 hW2
  cases hnet : netB n
  · have HDEF := Lib.hid (upF_no (n := n) (k := k) (by unfold upB; rw [hnet]; rfl))
    rw [hnet] at HGD
    clear hnet
    go_enter Tryz.func8, Tryz.ntmps8
    go_wp2_with fail
    rw [← HW2.out]
    refine (HGD.out).mono ?_
    rintro e w3 ⟨rfl, hf⟩
    have HF := Lib.hid (fstep HF2.out hf)
    have HFF := Lib.hid hf
    clear hf HGD
    go_wp2
    go_ret2
    exact ⟨.slice (some ⟨w.heap.size + 1, 0, none⟩) 0 0, by rw [HDEF.out]; (first | done | rfl), by rw [HDEF.out]; exact ⟨_, 0, [], rfl, rfl, HOE.out.keep (HFF.out), fun x hx => by simp at hx, Dist.none⟩, fstep HF2.out (HFF.out)⟩
  · have HNET := Lib.hid hnet
    rw [hnet] at HGD
    cases hkb : kindB k
    · have HDEF := Lib.hid (upF_no (n := n) (k := k) (by unfold upB; rw [hkb, Bool.and_false]))
      rw [hkb] at HKI
      clear hnet hkb
      go_enter Tryz.func8, Tryz.ntmps8
      go_wp2_with fail
      rw [← HW2.out]
      refine (HGD.out).mono ?_
      rintro e w3 ⟨rfl, hf⟩
      have HF := Lib.hid (fstep HF2.out hf)
      have HFF := Lib.hid hf
      clear hf HGD
      go_wp2_with (go_at_call 25; refine (HKI.out _).mono ?_; rintro e w4 ⟨rfl, rfl⟩)
      go_ret2
      exact ⟨.slice (some ⟨w.heap.size + 1, 0, none⟩) 0 0, by rw [HDEF.out]; (first | done | rfl), by rw [HDEF.out]; exact ⟨_, 0, [], rfl, rfl, HOE.out.keep (HFF.out), fun x hx => by simp at hx, Dist.none⟩, fstep HF2.out (HFF.out)⟩
    · have HUP : Hid (upB n k = true) := by show _ = _; unfold upB; rw [hnet, hkb]; rfl
      have h8 := (net_at hnet).1
      have HTL : Hid (∀ i, (toI (dU n k) n.nodes.length i).length ≤ i * n.nodes.length) := fun i => toI_len _ _ i
      have HRL : Hid (∀ i m, (rowI (dU n k) i m).length ≤ m) := fun i m => rowI_len _ i m
      rw [hkb] at HKI
      clear hnet hkb
      go_enter Tryz.func8, Tryz.ntmps8
      go_wp2_with fail
      rw [← HW2.out]
      refine (HGD.out).mono ?_
      rintro e w3 ⟨rfl, hf⟩
      have HF := Lib.hid (fstep HF2.out hf)
      have HR3 := Lib.hid (HR1.out.keep hf)
      have HO0' := Lib.hid (ownsRow_keep HO0.out hf)
      have c0 := HR3.out.cell (i := 0) rfl
      clear hf HGD
      go_wp2_with (go_at_call 25; refine (HKI.out _).mono ?_; rintro e w4 ⟨rfl, rfl⟩)
      go_loopw [6, 7] (fun o i wr => ∃ (j : Nat) (I : List LI), j ≤ n.nodes.length ∧ i = .int .i64 j ∧ wr.ownsRow w.heap.size 37 1 o I.length (I.map liV) ∧ OwnS wr w.heap.size I ∧ Dist I ∧ I.map LI.xs = (toI (dU n k) n.nodes.length j).map pI ∧ (∀ a b : Nat, a < j → a < b → b < n.nodes.length → okU n k a b = true) ∧ Fresh w wr ∧ RowAt wr w.heap.size 27 [.slice qn n.nodes.length cn, .slice pn n.fibers.length cp]) (fun _ i _ => n.nodes.length - (intOf i).toNat)
      case atStart => exact ⟨0, [], Nat.zero_le _, rfl, HO0'.out, fun x hx => by simp at hx, Dist.none, rfl, fun a b h => by omega, HF.out, HR3.out⟩
      case round =>
        obtain ⟨i, I, hi', rfl, hown, hos, hds, hval, hall, hf, hrn⟩ := hrel
        obtain ⟨wo, rfl⟩ : ∃ W, W = wr := ⟨_, rfl⟩
        have HO := Lib.hid hown
        have HOS := Lib.hid hos
        have HDS := Lib.hid hds
        have HVL := Lib.hid hval
        have HAL := Lib.hid hall
        have HFI := Lib.hid hf
        have HRN := Lib.hid hrn
        have d0 := hrn.cell (i := 0) rfl
        clear hown hos hds hval hall hf hrn
        by_cases hlt : i < n.nodes.length
        · have hltz : (i : Int) < (n.nodes.length : Int) := by omega
          have hw1 : IntKind.i64.wrap ((i : Int) + 1) = (i : Int) + 1 := by rw [IntKind.wrap_i64]; omega
          go_wp2
          clear hw1 hltz d0
          go_loopw [6, 8] (fun o b wr => ∃ (m : Nat) (I2 : List LI), i + 1 ≤ m ∧ m ≤ n.nodes.length ∧ b = .int .i64 m ∧ wr.ownsRow w.heap.size 37 1 o I2.length (I2.map liV) ∧ OwnS wr w.heap.size I2 ∧ Dist I2 ∧ I2.map LI.xs = (toI (dU n k) n.nodes.length i ++ rowI (dU n k) i m).map pI ∧ (∀ b : Nat, i < b → b < m → okU n k i b = true) ∧ Fresh w wr ∧ RowAt wr w.heap.size 27 [.slice qn n.nodes.length cn, .slice pn n.fibers.length cp]) (fun _ b _ => n.nodes.length - (intOf b).toNat)
          case atStart => exact ⟨i + 1, I, Nat.le_refl _, by omega, by go_num, HO.out, HOS.out, HDS.out, by rw [rowI_low, List.append_nil]; exact HVL.out, fun b h1 h2 => by omega, HFI.out, HRN.out⟩
          case round =>
            obtain ⟨m, I2, hm1, hm2, rfl, hown, hos, hds, hval, hall, hf, hrn⟩ := hrel
            have hI2 : I2.length ≤ 1048576 := by
              have h1 := congrArg List.length hval
              rw [List.length_map, List.length_map, List.length_append] at h1
              have h2 := HTL.out i
              have h3 := HRL.out i m
              have h4 : i * n.nodes.length ≤ 8 * 8 := Nat.mul_le_mul (by omega) h8
              omega
            have HO2 := Lib.hid hown
            have HOS2 := Lib.hid hos
            have HDS2 := Lib.hid hds
            have HVL2 := Lib.hid hval
            have HAL2 := Lib.hid hall
            have HF2' := Lib.hid hf
            have HRN2 := Lib.hid hrn
            have d0 := hrn.cell (i := 0) rfl
            have d1 := hrn.cell (i := 1) rfl
            clear hown hos hds hval hall hf hrn
            by_cases hlt2 : m < n.nodes.length
            · have hltz : (m : Int) < (n.nodes.length : Int) := by omega
              have HCP := Lib.hid (specCountPairs_any _ n (i : Int) (m : Int) k wr (HN.out.keep HF2'.out))
              obtain ⟨cc, hcc⟩ : ∃ c, c = (countF n i m k).1 := ⟨_, rfl⟩
              obtain ⟨bb, hbb⟩ : ∃ b, b = (countF n i m k).2 := ⟨_, rfl⟩
              rw [← hcc, ← hbb] at HCP
              have HOKU : Hid (okU n k i m = bb) := by show _ = _; rw [hbb]; rfl
              have HDU := Lib.hid (dU_of hcc.symm)
              clear hcc hbb
              go_wp2_with fail
              refine (HCP.out).mono ?_
              rintro e w5 ⟨rfl, hf5⟩
              have HF5 := Lib.hid hf5
              clear hf5 HCP d0 d1
              cases bb
              · have HDEF := Lib.hid (upF_bad (n := n) (k := k) (show i < m by omega) hlt2 HOKU.out)
                have HFF := Lib.hid (fstep HF2'.out HF5.out)
                go_wp2
                go_ret2
                exact ⟨.slice (some ⟨w5.heap.size, 0, none⟩) 0 0, by rw [HDEF.out]; (first | done | rfl), by rw [HDEF.out]; exact ownSS_new HFF.out.size, fnew HFF.out _⟩
              · have HAL3 : Hid (∀ b : Nat, i < b → b < m + 1 → okU n k i b = true) := by
                  intro b h1 h2
                  rcases Nat.eq_or_lt_of_le (show b ≤ m by omega) with h' | h'
                  · subst h'; exact HOKU.out
                  · exact HAL2.out b h1 h'
                cases hd : (cc == 0)
                · rw [hd] at HDU
                  go_wp2
                  go_roundw
                  case rel => exact ⟨m + 1, I2, by omega, by omega, by go_num, ownsRow_keep HO2.out HF5.out, HOS2.out.keep HF5.out, HDS2.out, by rw [rowI_none HDU.out]; exact HVL2.out, HAL3.out, fstep HF2'.out HF5.out, HRN2.out.keep HF5.out⟩
                  case measure => simp [intOf]; omega
                · rw [hd] at HDU
                  have hf6 : Fresh w5 (w5.alloc (.cells #[.int .i64 (i : Int), .int .i64 (m : Int)] 3)) := fnew (frefl _) _
                  have hr6 : RowAt (w5.alloc (.cells #[.int .i64 (i : Int), .int .i64 (m : Int)] 3)) w5.heap.size 3 [iv (i : Int), iv (m : Int)] := RowAt.new _ _ _
                  have hown6 := ownsRow_keep HO2.out (fstep HF5.out hf6)
                  have HF6 := Lib.hid (fstep HF2'.out (fstep HF5.out hf6))
                  have HOS6 := Lib.hid (HOS2.out.keep (fstep HF5.out hf6))
                  have HRN6 := Lib.hid (HRN2.out.keep (fstep HF5.out hf6))
                  have HR6 := Lib.hid hr6
                  have HSZ := Lib.hid (fstep HF2'.out HF5.out).size
                  have HLT := Lib.hid (ownS_lt (HOS2.out.keep HF5.out))
                  clear hf6 hr6
                  go_wp2_with (at_builtin; refine wpList_app_g Tryz.underlying30 infoIs rfl (by decide) (by decide) w _ _ I2.length (I2.map liV) [liV ⟨some ⟨w5.heap.size, 0, none⟩, 2, pI (i, m)⟩] _ rfl (by intro u hu; simp at hu; subst hu; rfl) rfl _ _ rfl rfl hown6 rfl (by simp) (by omega) HF6.out ?_; intro v' w3' hown3 hf3 hkp)
                  have HO3 := Lib.hid hown3
                  have HF3 := Lib.hid hf3
                  have HK3 := Lib.hid hkp
                  clear hown3 hf3 hkp hown6 hd
                  go_wp2
                  go_roundw
                  case rel => exact ⟨m + 1, I2 ++ [⟨some ⟨w5.heap.size, 0, none⟩, 2, pI (i, m)⟩], by omega, by omega, by go_num, by rw [List.map_append, List.length_append]; exact HO3.out, (HOS6.out.grown HK3.out (by decide)).snoc (Or.inr ⟨w5.heap.size, [], rfl, HSZ.out, by rw [List.append_nil]; exact HK3.out _ _ _ HR6.out (by decide)⟩), HDS2.out.snoc (fun y hy g o h' o' e1 e2 => by have := HLT.out y hy h' o' e2; cases e1; omega), by rw [rowI_some (by omega) HDU.out, ← List.append_assoc, List.map_append, List.map_append (f := pI), HVL2.out]; rfl, HAL3.out, HF3.out, HK3.out _ _ _ HRN6.out (by decide)⟩
                  case measure => simp [intOf]; omega
            · have hmn : m = n.nodes.length := by omega
              have hltz : ¬ (m : Int) < (n.nodes.length : Int) := by omega
              have HVL3 : Hid (I2.map LI.xs = (toI (dU n k) n.nodes.length (i + 1)).map pI) := by
                show _ = _
                rw [toI_succ, HVL2.out, hmn]
              have HAL3 : Hid (∀ a b : Nat, a < i + 1 → a < b → b < n.nodes.length → okU n k a b = true) := by
                intro a b h1 h2 h3
                rcases Nat.eq_or_lt_of_le (show a ≤ i by omega) with h' | h'
                · subst h'; exact HAL2.out b h2 (by omega)
                · exact HAL.out a b h' h2 h3
              clear hmn d1
              go_wp2
              go_roundw
              case rel => exact ⟨i + 1, I2, by omega, by go_num, HO2.out, HOS2.out, HDS2.out, HVL3.out, HAL3.out, HF2'.out, HRN2.out⟩
              case measure => simp [intOf]; omega
        · have hjn : i = n.nodes.length := by omega
          have hltz : ¬ (i : Int) < (n.nodes.length : Int) := by omega
          have HDEF := Lib.hid (upF_yes HUP.out (fun a b h1 h2 => HAL.out a b (by omega) h1 h2))
          have HVL3 : Hid (I.map LI.xs = upL n k) := by show _ = _; rw [HVL.out, hjn]; rfl
          obtain ⟨pv, cv, rfl, hoo, _, _⟩ := owns_cap HO.out
          have HOO := Lib.hid hoo
          clear hjn hoo
          go_wp2
          go_ret2
          exact ⟨.slice pv I.length cv, by rw [HDEF.out]; (first | done | rfl), by rw [HDEF.out]; exact ⟨pv, cv, I, rfl, HVL3.out, HOO.out, HOS.out, HDS.out⟩, HFI.out⟩
end Go.Proofs.YtlapicgeokjpjaaGreat
