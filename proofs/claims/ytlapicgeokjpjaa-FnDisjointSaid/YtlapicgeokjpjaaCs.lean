/- Contracts: the risk groups and the common risks of two routes, the reference's side. -/
import Derived.Test.YtlapicgeokjpjaaGr3
import Derived.Test.YtlapicgeokjpjaaDj2
import Derived.Test.YtlapicgeokjpjaaDjL
import Derived.Test.YtlapicgeokjpjaaRd
namespace Go.Proofs.Ytlapicgeokjpjaa
open Go.RowKit Go.PlainAid

/-- Rows of ints of the call's own are handed back. -/
def OutGr (w : World) (e : Ending) (w' : World) : Prop := ∃ (q : Option Addr) (c : Nat) (I : List LI), e = .returned (.slice q I.length c) ∧ w'.ownsRow w.heap.size 28 1 (.slice q I.length c) I.length (I.map liV) ∧ OwnS w' w.heap.size I ∧ I.length ≤ 40 ∧ (∀ x ∈ I, x.xs.length ≤ 64) ∧ Fresh w w'
theorem len64 {I : List LI} {y : LI} (h : ∀ x ∈ I, x.xs.length ≤ 64) (hy : y.xs.length ≤ 64) : ∀ x ∈ I ++ [y], x.xs.length ≤ 64 := by
  intro x hx
  rcases List.mem_append.1 hx with h1 | h1
  · exact h x h1
  · obtain rfl : x = y := by simpa using h1
    exact hy
set_option maxHeartbeats 4000000 in
set_option maxRecDepth 20000 in
theorem l2Groups_any (v : Value) (n : Net) (w : World) (h : NetIn w v n) (h14 : n.fibers.length ≤ 14) :
    Calls Try.prog 26 #[v] w (OutGr w) := by
  have HN := Lib.hid h
  obtain ⟨qn, cn, pn, cp, rfl, _, hfi, _⟩ := h
  obtain ⟨W2, hW2⟩ : ∃ W, W = w.alloc (.cells #[.slice qn n.nodes.length cn, .slice pn n.fibers.length cp] 27) := ⟨_, rfl⟩
  have hf2 : Fresh w W2 := by rw [hW2]; exact fnew (frefl _) _
  have hs2 : W2.heap.size = w.heap.size + 1 := by rw [hW2]; simp
  have r1 : RowAt W2 w.heap.size 27 [.slice qn n.nodes.length cn, .slice pn n.fibers.length cp] := by rw [hW2]; exact RowAt.new _ _ _
  obtain ⟨bN, hbN⟩ : ∃ b, b = w.heap.size := ⟨_, rfl⟩
  obtain ⟨bO, hbO⟩ : ∃ b, b = w.heap.size + 1 := ⟨_, rfl⟩
  obtain ⟨W3, hW3⟩ : ∃ W, W = W2.alloc (.cells #[] 28) := ⟨_, rfl⟩
  have hf3 : Fresh W2 W3 := by rw [hW3]; exact fnew (frefl _) _
  have HO0 : Hid (W3.ownsRow w.heap.size 28 1 (.slice (some ⟨bO, 0, none⟩) 0 0) 0 []) := by rw [hW3, hbO, ← hs2]; exact ownsRow_zero (RowAt.new W2 _ []) hf2.size
  rw [← hbN] at r1
  have HR3 := Lib.hid (r1.keep hf3)
  have HF3 := Lib.hid (fstep hf2 hf3)
  have HFI := Lib.hid hfi
  have HW2 := Lib.hid hW2
  have HW3 := Lib.hid hW3
  have HBN := Lib.hid hbN
  have HBO := Lib.hid hbO
  have HRS : Hid (Ints w none [] ) := Or.inl rfl
  clear hW2 hf2 hs2 r1 hbN hbO hW3 hf3 hfi HRS
  go_enter Try.func26, Try.ntmps26
  go_upto_region 2 with fail
  rw [← HW2.out, ← HW3.out, ← HBO.out, ← HBN.out]
  go_wp2
  go_loopw [3, 4] (fun o rv wr => ∃ k : Nat, 1 ≤ k ∧ k ≤ 10 ∧ rv = .int .i64 (k : Int) ∧ Fresh w wr ∧ RowAt wr bN 27 [.slice qn n.nodes.length cn, .slice pn n.fibers.length cp] ∧ ∃ I : List LI, wr.ownsRow w.heap.size 28 1 o I.length (I.map liV) ∧ OwnS wr w.heap.size I ∧ I.length + 1 ≤ k ∧ ∀ x ∈ I, x.xs.length ≤ 64) (fun _ rv _ => 10 - (intOf rv).toNat)
  case atStart => exact ⟨1, by omega, by omega, rfl, HF3.out, HR3.out, [], HO0.out, (fun x hx => by simp at hx), by simp, fun x hx => by simp at hx⟩
  case round =>
    obtain ⟨k, hk1, hk10, rfl, hf, hrn, I, hown, hos, hIk, hal⟩ := hrel
    obtain ⟨wo, rfl⟩ : ∃ W, W = wr := ⟨_, rfl⟩
    obtain ⟨qo, co, rfl, _⟩ := owns_cap hown
    have HF := Lib.hid hf
    have HRN := Lib.hid hrn
    have HO := Lib.hid hown
    have HOS := Lib.hid hos
    have HAL := Lib.hid hal
    have c0 := hrn.cell (i := 0) rfl
    have c1 := hrn.cell (i := 1) rfl
    clear hf hrn hown hos hal
    by_cases hlt : k < 10
    · have hltz : (k : Int) ≤ 9 := by omega
      have hltd : decide (k ≤ 9) = true := decide_eq_true (by omega)
      have hw1 : IntKind.i64.wrap ((k : Int) + 1) = (k : Int) + 1 := by rw [IntKind.wrap_i64]; omega
      go_wp2
      go_loopw [3, 5] (fun o jv wq => ∃ j : Nat, j ≤ n.fibers.length ∧ jv = .int .i64 (j : Int) ∧ o = .slice qo I.length co ∧ Fresh wo wq) (fun _ jv _ => n.fibers.length - (intOf jv).toNat)
      case atStart => exact ⟨0, Nat.zero_le _, rfl, rfl, frefl _⟩
      case round =>
        obtain ⟨j, hj, rfl, rfl, hfq⟩ := hrel
        obtain ⟨wq, rfl⟩ : ∃ W, W = wr := ⟨_, rfl⟩
        have HFQ := Lib.hid hfq
        have c0 := fkeep hfq c0
        have c1 := fkeep hfq c1
        have hfi := HFI.out.keep (fstep HF.out hfq)
        clear hfq
        by_cases hjl : j < n.fibers.length
        · have hjz : (j : Int) < (n.fibers.length : Int) := by omega
          obtain ⟨bi, oi, xi, yi, zi, ui, rfl, hxi, i0, i1, i2, i3⟩ := hfi.at hjl
          have hw2 : IntKind.i64.wrap ((j : Int) + 1) = (j : Int) + 1 := by rw [IntKind.wrap_i64]; omega
          clear i0 i1 i2 hxi
          by_cases hu : ui = (k : Int)
          · subst hu
            have HNQ := Lib.hid (HN.out.keep (fstep HF.out HFQ.out))
            have HOQ := Lib.hid (ownsRow_keep HO.out HFQ.out)
            have HGR := Lib.hid (l2Group_any _ n j wq HNQ.out h14 hjl)
            go_wp2_with fail
            refine (HGR.out).mono ?_
            rintro e w5 ⟨pg, cg, rfl, hog, hf5⟩
            obtain ⟨G, hG⟩ : ∃ G, G = groupL n.fibers (j : Int) := ⟨_, rfl⟩
            have hG64 : G.length ≤ 64 := by have := groupL_len n.fibers (j : Int); rw [← hG] at this; omega
            rw [← hG] at hog ⊢
            have hown5 := ownsRow_keep HOQ.out hf5
            have HF5 := Lib.hid (fstep (fstep HF.out HFQ.out) hf5)
            have HOS5 := Lib.hid (HOS.out.keep (fstep HFQ.out hf5))
            have HOG := Lib.hid (hog.mono (fstep HF.out HFQ.out).size)
            have HRN5 := Lib.hid (HRN.out.keep (fstep HFQ.out hf5))
            clear hG hog hf5 c0 c1 i3
            go_wp2_with (at_builtin; refine wpList_app_g Try.underlying55 infoIs rfl (by decide) (by decide) w _ _ I.length (I.map liV) [liV ⟨pg, cg, G⟩] _ rfl (by intro u hu; simp at hu; subst hu; rfl) rfl _ _ rfl rfl hown5 rfl (by simp) (by omega) HF5.out ?_; intro v' w6 hown6 hf6 hkp)
            have HO6 := Lib.hid hown6
            have HF6 := Lib.hid hf6
            have HK6 := Lib.hid hkp
            clear hown5 hown6 hf6 hkp
            go_wp2
            go_roundw
            case rel => exact ⟨k + 1, by omega, by omega, by go_num, HF6.out, HK6.out _ _ _ HRN5.out (by decide), I ++ [⟨pg, cg, G⟩], by rw [List.map_append, List.length_append]; exact HO6.out, (HOS5.out.grown HK6.out (by decide)).snoc (HOG.out.grown HK6.out (by decide)), by simp; omega, len64 HAL.out hG64⟩
            case measure => simp [intOf]; omega
          · have hub : (ui == (k : Int)) = false := by rw [beq_eq_false_iff_ne]; exact hu
            clear hu
            go_wp2
            go_roundw
            case rel => exact ⟨j + 1, by omega, by go_num, rfl, HFQ.out⟩
            case measure => simp [intOf]; omega
        · have hjz : ¬ (j : Int) < (n.fibers.length : Int) := by omega
          have HO5 := Lib.hid (ownsRow_keep HO.out HFQ.out)
          have HOS5 := Lib.hid (HOS.out.keep HFQ.out)
          have HRN5 := Lib.hid (HRN.out.keep HFQ.out)
          have HF5 := Lib.hid (fstep HF.out HFQ.out)
          go_wp2
          go_roundw
          case rel => exact ⟨k + 1, by omega, by omega, by go_num, HF5.out, HRN5.out, I, HO5.out, HOS5.out, by omega, HAL.out⟩
          case measure => simp [intOf]; omega
    · have hltz : ¬ (k : Int) ≤ 9 := by omega
      have hltd : decide (k ≤ 9) = false := decide_eq_false (by omega)
      clear c0 c1
      go_wp2
      go_loopw [3, 6] (fun o mv wr => ∃ m : Nat, m ≤ n.fibers.length ∧ mv = .int .i64 (m : Int) ∧ Fresh w wr ∧ RowAt wr bN 27 [.slice qn n.nodes.length cn, .slice pn n.fibers.length cp] ∧ ∃ I : List LI, wr.ownsRow w.heap.size 28 1 o I.length (I.map liV) ∧ OwnS wr w.heap.size I ∧ I.length ≤ 9 + m ∧ ∀ x ∈ I, x.xs.length ≤ 64) (fun _ mv _ => n.fibers.length - (intOf mv).toNat)
      case atStart => exact ⟨0, Nat.zero_le _, rfl, HF.out, HRN.out, I, HO.out, HOS.out, by omega, HAL.out⟩
      case round =>
        clear HF HRN HO HOS HAL
        obtain ⟨m, hm, rfl, hf, hrn, I, hown, hos, hIk, hal⟩ := hrel
        obtain ⟨qo, co, rfl, _⟩ := owns_cap hown
        have HF := Lib.hid hf
        have HRN := Lib.hid hrn
        have HO := Lib.hid hown
        have HOS := Lib.hid hos
        have HAL := Lib.hid hal
        have c0 := hrn.cell (i := 0) rfl
        have c1 := hrn.cell (i := 1) rfl
        have hfi := HFI.out.keep hf
        clear hf hrn hown hos hal
        by_cases hml : m < n.fibers.length
        · have hmz : (m : Int) < (n.fibers.length : Int) := by omega
          obtain ⟨bi, oi, xi, yi, zi, ui, rfl, hxi, i0, i1, i2, i3⟩ := hfi.at hml
          have hw2 : IntKind.i64.wrap ((m : Int) + 1) = (m : Int) + 1 := by rw [IntKind.wrap_i64]; omega
          clear i0 i1 i2 hxi
          by_cases hu : ui = 0
          · subst hu
            have hf6 : Fresh wr (wr.alloc (.cells #[.int .i64 (m : Int)] 3)) := fnew (frefl _) _
            have hr6 : RowAt (wr.alloc (.cells #[.int .i64 (m : Int)] 3)) wr.heap.size 3 [iv (m : Int)] := RowAt.new _ _ _
            have hown6 := ownsRow_keep HO.out hf6
            have HF6 := Lib.hid (fstep HF.out hf6)
            have HOS6 := Lib.hid (HOS.out.keep hf6)
            have HRN6 := Lib.hid (HRN.out.keep hf6)
            have HR6 := Lib.hid hr6
            have HSZ := Lib.hid HF.out.size
            clear hf6 hr6
            go_wp2_with (at_builtin; refine wpList_app_g Try.underlying55 infoIs rfl (by decide) (by decide) w _ _ I.length (I.map liV) [liV ⟨some ⟨wr.heap.size, 0, none⟩, 1, [(m : Int)]⟩] _ rfl (by intro u hu; simp at hu; subst hu; rfl) rfl _ _ rfl rfl hown6 rfl (by simp) (by omega) HF6.out ?_; intro v' w7 hown7 hf7 hkp)
            have HO7 := Lib.hid hown7
            have HF7 := Lib.hid hf7
            have HK7 := Lib.hid hkp
            clear hown6 hown7 hf7 hkp
            go_wp2
            go_roundw
            case rel => exact ⟨m + 1, by omega, by go_num, HF7.out, HK7.out _ _ _ HRN6.out (by decide), I ++ [⟨some ⟨wr.heap.size, 0, none⟩, 1, [(m : Int)]⟩], by rw [List.map_append, List.length_append]; exact HO7.out, (HOS6.out.grown HK7.out (by decide)).snoc (Or.inr ⟨wr.heap.size, [], rfl, HSZ.out, by rw [List.append_nil]; exact HK7.out _ _ _ HR6.out (by decide)⟩), by simp; omega, len64 HAL.out (by simp)⟩
            case measure => simp [intOf]; omega
          · have hub : (ui == 0) = false := by rw [beq_eq_false_iff_ne]; exact hu
            clear hu
            go_wp2
            go_roundw
            case rel => exact ⟨m + 1, by omega, by go_num, HF.out, HRN.out, I, HO.out, HOS.out, by omega, HAL.out⟩
            case measure => simp [intOf]; omega
        · have hmz : ¬ (m : Int) < (n.fibers.length : Int) := by omega
          go_wp2
          go_ret
          exact ⟨qo, co, I, rfl, HO.out, HOS.out, by omega, HAL.out, HF.out⟩
/-- The row under way is none of the groups. -/
def SepI (o : Value) (I : List LI) : Prop := ∀ k', o.ownBlock = some k' → ∀ x ∈ I, ∀ g off, x.q = some ⟨g, off, none⟩ → g ≠ k'
structure CsSt (w wr : World) (lo : Nat) (A B : List Value) (qg : Option Addr) (I : List LI) : Prop where
  fr : Fresh w wr
  ra : RowAt wr (w.heap.size + 1) 30 A
  rb : RowAt wr (w.heap.size + 1 + 1) 30 B
  og : Own wr lo 28 qg (I.map liV)
  os : OwnS wr lo I
theorem CsSt.keep {w wr w' : World} {lo : Nat} {A B : List Value} {qg : Option Addr} {I : List LI} (h : CsSt w wr lo A B qg I) (hb : Fresh wr w') : CsSt w w' lo A B qg I :=
  ⟨fstep h.fr hb, h.ra.keep hb, h.rb.keep hb, h.og.keep hb, h.os.keep hb⟩
theorem ownS_low {w : World} {base : Nat} {l : List LI} (h : OwnS w base l) : ∀ y ∈ l, ∀ g o, y.q = some ⟨g, o, none⟩ → base ≤ g ∧ g < w.heap.size := by
  intro y hy g o hq
  rcases h y hy with ⟨h1, _⟩ | ⟨g', sp, h1, hb, hr⟩
  · rw [hq] at h1; cases h1
  · rw [hq] at h1; cases h1; exact ⟨hb, hr.lt⟩
theorem CsSt.app {w wr w' : World} {lo : Nat} {A B : List Value} {qg : Option Addr} {I : List LI} {o : Value} {L : List Int} (h : CsSt w wr lo A B qg I) (ho : Row wr w.heap.size o L) (hg : wr.grownBy w' o.ownBlock) (hs : SepI o I) : CsSt w w' lo A B qg I := by
  refine ⟨fgrown h.fr hg (own_block ho), row_grown0 ho hg h.ra (by decide), row_grown0 ho hg h.rb (by decide), ?_, fun x hx => ?_⟩
  · rcases h.og with h1 | ⟨g, sp, h1, hb, hr⟩
    · exact Or.inl h1
    · exact Or.inr ⟨g, sp, h1, hb, row_grown0 ho hg hr (by decide)⟩
  · rcases h.os x hx with h1 | ⟨g, sp, h1, hb, hr⟩
    · exact Or.inl h1
    · refine Or.inr ⟨g, sp, h1, hb, ?_⟩
      have := hg.block g hr.lt (fun e => hs g e.symm x hx g 0 h1 rfl)
      unfold RowAt at hr ⊢
      rw [this]; exact hr
theorem SepI.app {w wr : World} {lo : Nat} {A B : List Value} {qg : Option Addr} {I : List LI} {o o' : Value} (h : CsSt w wr lo A B qg I) (hs : SepI o I) (hb : ∀ k, o'.ownBlock = some k → o.ownBlock = some k ∨ wr.heap.size ≤ k) : SepI o' I := by
  intro k hk x hx g off hq
  rcases hb k hk with h1 | h1
  · exact hs k h1 x hx g off hq
  · have := (ownS_low h.os x hx g off hq).2
    omega
set_option maxHeartbeats 4000000 in
set_option maxRecDepth 20000 in
theorem specCommonRisks_any (v : Value) (n : Net) (v2 v3 : Value) (A B : Int × List Int) (w : World) (h : NetIn w v n) (h2 : RtIn w v2 A) (h3 : RtIn w v3 B) :
    Calls Try.prog 9 #[v, v2, v3] w fun e w' => ∃ (p : Option Addr) (N c : Nat), e = .returned (.tuple #[.slice p N c, .bool (crB n A B)]) ∧ Fresh w w' := by
  have HN := Lib.hid h
  obtain ⟨s, q, cap, a, rfl, ha, hl, rfl⟩ := h2
  obtain ⟨s', q', cap', b, rfl, hb, hl', rfl⟩ := h3
  obtain ⟨qn, cn, pn, cp, rfl, _, _, n1, _, _, _, _⟩ := h
  obtain ⟨W3, hW3, hsz3, hf3, r1, r2, r3⟩ := three_rows w [.slice qn n.nodes.length cn, .slice pn n.fibers.length cp] [.int .i64 s, .slice q a.length cap] [.int .i64 s', .slice q' b.length cap'] 27 30 30
  obtain ⟨bO, hbO⟩ : ∃ b, b = w.heap.size + 1 + 1 + 1 := ⟨_, rfl⟩
  obtain ⟨W4, hW4⟩ : ∃ W, W = W3.alloc (.cells #[] 3) := ⟨_, rfl⟩
  have hf4 : Fresh W3 W4 := by rw [hW4]; exact fnew (frefl _) _
  have HO4 : Hid (W4.ownsRow w.heap.size 3 1 (.slice (some ⟨bO, 0, none⟩) 0 0) 0 []) := by rw [hW4, hbO, ← hsz3]; exact ownsRow_zero (RowAt.new W3 _ []) hf3.size
  have hf := fstep hf3 hf4
  have HIA := Lib.hid (ha.keep hf)
  have HIB := Lib.hid (hb.keep hf)
  have HA0 := Lib.hid ha
  have HB0 := Lib.hid hb
  have HBL : Hid (bO < W4.heap.size) := by show _ < _; rw [hW4, hbO, ← hsz3]; simp
  have HF4 := Lib.hid hf
  have HW3 := Lib.hid hW3
  have HW4 := Lib.hid hW4
  have HBO := Lib.hid hbO
  have HN4 := Lib.hid (HN.out.keep hf)
  have HR1 := Lib.hid (r1.keep hf4)
  have HR2 := Lib.hid (r2.keep hf4)
  have HR3 := Lib.hid (r3.keep hf4)
  obtain ⟨ga, hga⟩ : ∃ g, g = (netB n && isVis n s a) := ⟨_, rfl⟩
  obtain ⟨gb, hgb⟩ : ∃ g, g = (netB n && isVis n s' b) := ⟨_, rfl⟩
  have HGA : Hid (∀ W, Fresh W4 W → Calls Try.prog 12 #[.agg #[.slice qn n.nodes.length cn, .slice pn n.fibers.length cp], .agg #[.int .i64 s, .slice q a.length cap]] W fun e w' => e = .returned (.bool ga) ∧ Fresh W w') := fun W hW => by
    rw [hga]; exact l4Good_any _ n s q cap a W (HN4.out.keep hW) (HIA.out.keep hW) hl
  have HGB : Hid (∀ W, Fresh W4 W → Calls Try.prog 12 #[.agg #[.slice qn n.nodes.length cn, .slice pn n.fibers.length cp], .agg #[.int .i64 s', .slice q' b.length cap']] W fun e w' => e = .returned (.bool gb) ∧ Fresh W w') := fun W hW => by
    rw [hgb]; exact l4Good_any _ n s' q' cap' b W (HN4.out.keep hW) (HIB.out.keep hW) hl'
  have HCR : Hid (crB n (s, a) (s', b) = (ga && gb)) := by show _ = _; rw [hga, hgb]; unfold crB; cases netB n <;> simp
  have HGAE := Lib.hid hga
  have c0 := HR1.out.cell (i := 0) rfl
  have c1 := HR1.out.cell (i := 1) rfl
  have d0 := HR2.out.cell (i := 0) rfl
  have d1 := HR2.out.cell (i := 1) rfl
  clear ha hb hf3 hf4 hf hW3 hW4 hbO r1 r2 r3 hsz3 hga hgb
  go_enter Try.func9, Try.ntmps9
  go_upto_region 2 with fail
  rw [← HW3.out, ← HW4.out, ← HBO.out]
  go_wp2_with fail
  refine (HGA.out _ (frefl _)).mono ?_
  rintro e w5 ⟨rfl, hf5⟩
  have HF5 := Lib.hid hf5
  clear hf5 c0 c1 d0 d1
  cases ga with
  | false =>
    go_wp2
    go_ret2
    exact ⟨_, _, _, by rw [HCR.out]; rfl, fstep HF4.out HF5.out⟩
  | true =>
    have c0 := (HR1.out.keep HF5.out).cell (i := 0) rfl
    have c1 := (HR1.out.keep HF5.out).cell (i := 1) rfl
    have e0 := (HR3.out.keep HF5.out).cell (i := 0) rfl
    have e1 := (HR3.out.keep HF5.out).cell (i := 1) rfl
    go_wp2_with fail
    refine (HGB.out _ HF5.out).mono ?_
    rintro e w6 ⟨rfl, hf6⟩
    have HF6 := Lib.hid (fstep HF5.out hf6)
    clear hf6 c0 c1 e0 e1
    cases gb with
    | false =>
      go_wp2
      go_ret2
      exact ⟨_, _, _, by rw [HCR.out]; rfl, fstep HF4.out HF6.out⟩
    | true =>
      have h14 : n.fibers.length ≤ 14 := by
        have := HGAE.out.symm
        rw [Bool.and_eq_true] at this
        exact (net_at this.1).2.1
      have HLG := Lib.hid (l2Groups_any _ n w6 (HN4.out.keep HF6.out) h14)
      have c0 := (HR1.out.keep HF6.out).cell (i := 0) rfl
      have c1 := (HR1.out.keep HF6.out).cell (i := 1) rfl
      go_wp2_with fail
      refine (HLG.out).mono ?_
      rintro e w7 ⟨qg, cg, I, rfl, hog, hos, hI40, hal, hf7⟩
      have HF7 := Lib.hid (fstep HF6.out hf7)
      have HO7 := Lib.hid (ownsRow_keep HO4.out (fstep HF6.out hf7))
      obtain ⟨_, _, hve, hown, _, _⟩ := owns_cap hog
      cases hve
      have HAL := Lib.hid hal
      have HST : Hid (CsSt w w7 w6.heap.size [.int .i64 s, .slice q a.length cap] [.int .i64 s', .slice q' b.length cap'] qg I) := ⟨fstep HF4.out HF7.out, HR2.out.keep HF7.out, HR3.out.keep HF7.out, hown, hos⟩
      have HSP : Hid (SepI (.slice (some ⟨bO, 0, none⟩) 0 0) I) := fun k hk x hx g off hq => by
        have h1 := (ownS_low hos x hx g off hq).1
        have h2 := HF6.out.size
        have h3 := HBL.out
        have h4 : bO = k := Option.some.inj hk
        omega
      have HO8 : Hid (Row w7 w.heap.size (.slice (some ⟨bO, 0, none⟩) 0 0) []) := HO7.out
      clear hf7 hog hos hal hown c0 c1
      go_wp2
      go_loopw [8, 10] (fun o iv wr => ∃ k : Nat, k ≤ I.length ∧ iv = .int .i64 (k : Int) ∧ CsSt w wr w6.heap.size [.int .i64 s, .slice q a.length cap] [.int .i64 s', .slice q' b.length cap'] qg I ∧ SepI o I ∧ ∃ L : List Int, Row wr w.heap.size o L ∧ L.length ≤ k) (fun _ iv _ => I.length - (intOf iv).toNat)
      case atStart => exact ⟨0, Nat.zero_le _, rfl, HST.out, HSP.out, [], HO8.out, Nat.le_refl _⟩
      case round =>
        clear HST HSP HO8 HO7 HF7
        obtain ⟨k, hk, rfl, hst, hsp, L, hown, hLk⟩ := hrel
        obtain ⟨wo, rfl⟩ : ∃ W, W = wr := ⟨_, rfl⟩
        obtain ⟨qo, co, rfl⟩ := hown.slice
        have HST := Lib.hid hst
        have HSP := Lib.hid hsp
        have HO := Lib.hid hown
        clear hown hsp
        by_cases hlt : k < I.length
        · have hkz : (k : Int) < (I.length : Int) := by omega
          obtain ⟨y, hy⟩ : ∃ y, I[k]? = some y := ⟨_, List.getElem?_eq_getElem hlt⟩
          have hym := List.mem_of_getElem? hy
          obtain ⟨bg, og, hq, hcc⟩ := Cells.at hst.og.cells (by rw [List.length_map]; exact Nat.lt_of_le_of_lt (Nat.zero_le _) hlt)
          subst hq
          have g0 := hcc k (liV y) (by rw [List.getElem?_map, hy]; rfl)
          have d1 := hst.ra.cell (i := 1) rfl
          have e1 := hst.rb.cell (i := 1) rfl
          obtain ⟨b1, hb1⟩ : ∃ b1, b1 = ((midL y.xs 0).any fun i => decide (i ∈ a)) := ⟨_, rfl⟩
          obtain ⟨b2, hb2⟩ : ∃ b2, b2 = ((midL y.xs 0).any fun i => decide (i ∈ b)) := ⟨_, rfl⟩
          have hyi := (hst.os y hym).ints
          have hy64 := HAL.out y hym
          have HSA : Hid (∀ W, Fresh wo W → Calls Try.prog 27 #[.slice y.q y.xs.length y.cap, .slice q a.length cap, .int .i64 0] W fun e w' => e = .returned (.bool b1) ∧ Fresh W w') := fun W hW => by
            have := l7Share_any y.q q y.cap cap y.xs a 0 W (hyi.keep hW) (HA0.out.keep (fstep hst.fr hW)) (by omega) hl (by omega)
            rw [← hb1] at this
            exact this.mono fun e w' ⟨h1, h2⟩ => ⟨h1, by rw [← h2]; exact frefl _⟩
          have HSB : Hid (∀ W, Fresh wo W → Calls Try.prog 27 #[.slice y.q y.xs.length y.cap, .slice q' b.length cap', .int .i64 0] W fun e w' => e = .returned (.bool b2) ∧ Fresh W w') := fun W hW => by
            have := l7Share_any y.q q' y.cap cap' y.xs b 0 W (hyi.keep hW) (HB0.out.keep (fstep hst.fr hW)) (by omega) hl' (by omega)
            rw [← hb2] at this
            exact this.mono fun e w' ⟨h1, h2⟩ => ⟨h1, by rw [← h2]; exact frefl _⟩
          clear hb1 hb2 hyi hy64 hcc hym hy hst
          have tok1 : True := trivial
          have hw2 : IntKind.i64.wrap ((k : Int) + 1) = (k : Int) + 1 := by rw [IntKind.wrap_i64]; omega
          cases b1 with
          | false =>
            go_upto_region 8 with fail
            have k0 := fun xa : After wo => akeep g0 xa
            have k1 := fun xa : After wo => akeep d1 xa
            have k2 := fun xa : After wo => akeep e1 xa
            clear g0 d1 e1
            have HSX : Hid (∀ xa : After wo, Calls Try.prog 27 #[.slice y.q y.xs.length y.cap, .slice q a.length cap, .int .i64 0] xa.w' fun e w' => e = .returned (.bool false) ∧ Fresh xa.w' w') := fun xa => HSA.out xa.w' xa.h
            refine wp_region_after (by kernel_rfl) (by kernel_rfl) ?_
            repeat (go_big_quiet_step ((go_at_call 27; exact after_call (HSX.out _))))
            refine wpQuiet_nil ?_
            rintro _ ⟨xa, rfl⟩
            have HF9 := Lib.hid xa.h
            have HST9 := Lib.hid (HST.out.keep xa.h)
            have HO9 := Lib.hid (HO.out.keep xa.h)
            clear k0 k1 k2
            go_wp2
            go_roundw
            case rel => exact ⟨k + 1, by omega, by go_num, HST9.out, HSP.out, L, HO9.out, by omega⟩
            case measure => simp [intOf]; omega
          | true =>
            cases b2 with
            | false =>
              go_upto_region 8 with fail
              have HSS : Fresh wo wo ∧ wo.cell? ⟨bg, og + k, none⟩ = some (.slice y.q y.xs.length y.cap) ∧ wo.cell? ⟨w.heap.size + 1, 1, none⟩ = some (.slice q a.length cap) ∧ wo.cell? ⟨w.heap.size + 1 + 1, 1, none⟩ = some (.slice q' b.length cap') := ⟨frefl _, g0, d1, e1⟩
              go_region_held3 (fun w' => Fresh wo w' ∧ w'.cell? ⟨bg, og + k, none⟩ = some (.slice y.q y.xs.length y.cap) ∧ w'.cell? ⟨w.heap.size + 1, 1, none⟩ = some (.slice q a.length cap) ∧ w'.cell? ⟨w.heap.size + 1 + 1, 1, none⟩ = some (.slice q' b.length cap'))
                (first | assumption | exact keepc3 (by assumption) (by assumption) | exact keepc3 (by assumption) (fdrew (frefl _)) | exact keepc3 (by assumption) (frefl _))
                (first | (go_at_call 27; have _t := tok1; refine (HSA.out _ (And.left (by assumption))).mono ?_; rintro e w9 ⟨rfl, hb9⟩; clear tok1 _t) | (go_at_call 27; refine (HSB.out _ (And.left (by assumption))).mono ?_; rintro e w10 ⟨rfl, hb10⟩))
              have HF9 := Lib.hid (fstep (fstep (fdrew (frefl wo)) hb9) hb10)
              have HST9 := Lib.hid (HST.out.keep HF9.out)
              have HO9 := Lib.hid (HO.out.keep HF9.out)
              clear hb9 hb10 HSS g0 d1 e1
              go_wp2
              go_roundw
              case rel => exact ⟨k + 1, by omega, by go_num, HST9.out, HSP.out, L, HO9.out, by omega⟩
              case measure => simp [intOf]; omega
            | true =>
              go_upto_region 8 with fail
              have HSS : Fresh wo wo ∧ wo.cell? ⟨bg, og + k, none⟩ = some (.slice y.q y.xs.length y.cap) ∧ wo.cell? ⟨w.heap.size + 1, 1, none⟩ = some (.slice q a.length cap) ∧ wo.cell? ⟨w.heap.size + 1 + 1, 1, none⟩ = some (.slice q' b.length cap') := ⟨frefl _, g0, d1, e1⟩
              go_region_held3 (fun w' => Fresh wo w' ∧ w'.cell? ⟨bg, og + k, none⟩ = some (.slice y.q y.xs.length y.cap) ∧ w'.cell? ⟨w.heap.size + 1, 1, none⟩ = some (.slice q a.length cap) ∧ w'.cell? ⟨w.heap.size + 1 + 1, 1, none⟩ = some (.slice q' b.length cap'))
                (first | assumption | exact keepc3 (by assumption) (by assumption) | exact keepc3 (by assumption) (fdrew (frefl _)) | exact keepc3 (by assumption) (frefl _))
                (first | (go_at_call 27; have _t := tok1; refine (HSA.out _ (And.left (by assumption))).mono ?_; rintro e w9 ⟨rfl, hb9⟩; clear tok1 _t) | (go_at_call 27; refine (HSB.out _ (And.left (by assumption))).mono ?_; rintro e w10 ⟨rfl, hb10⟩))
              have HF9 := Lib.hid (fstep (fstep (fdrew (frefl wo)) hb9) hb10)
              have HST9 := Lib.hid (HST.out.keep HF9.out)
              have HO9 := Lib.hid (HO.out.keep HF9.out)
              have hs9 := HST9.out.fr.size
              clear hb9 hb10 HSS g0 d1 e1
              go_wp2_with (at_builtin; refine wpList_app_rd w.heap.size _ _ L (k : Int) rfl _ _ rfl rfl HO9.out rfl (by omega) hs9 ?_; intro q11 c11 w11 hown11 hg11 hb11; have HST11 := Lib.hid (HST9.out.app HO9.out hg11 HSP.out); have HSP11 := Lib.hid (SepI.app HST9.out HSP.out hb11); have HO11 := Lib.hid hown11; clear hown11 hg11 hb11)
              go_wp2
              go_roundw
              case rel => exact ⟨k + 1, by omega, by go_num, HST11.out, HSP11.out, L ++ [(k : Int)], HO11.out, by simp; omega⟩
              case measure => simp [intOf]; omega
        · have hkz : ¬ (k : Int) < (I.length : Int) := by omega
          have HFE := Lib.hid hst.fr
          clear hst
          go_wp2
          go_ret2
          first | exact ⟨⟨_, _, _, by rw [HCR.out]; rfl⟩, HFE.out⟩ | exact ⟨_, ⟨_, _, by rw [HCR.out]; rfl⟩, HFE.out⟩ | exact ⟨_, _, ⟨_, by rw [HCR.out]; rfl⟩, HFE.out⟩
end Go.Proofs.Ytlapicgeokjpjaa
