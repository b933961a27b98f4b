/- Contracts: assignment by an order, the program's side. -/
import Derived.Test.YtjaacinngfblkaaGreatAg6
import Derived.Test.YtjaacinngfblkaaGreatGp
import Derived.WalkSpells
namespace Go.Proofs.YtjaacinngfblkaaGreat
open Go.RowKit Go.PlainAid

set_option maxHeartbeats 1000000 in
set_option maxRecDepth 100000 in
theorem cloneI_any (p : Option Addr) (cap : Nat) (l : List Int) (w : World) (hI : Ints w p l) (hn : l.length ≤ 1048576) :
    Calls Tryz.prog 72 #[.slice p l.length cap] w fun e w' => ∃ v', e = .returned v' ∧ w'.ownsRow w.heap.size 3 1 v' l.length (l.map iv) ∧ Fresh w w' := by
  have hnil := fun w : World => Lib.run_eql_slice_nil (P := Tryz.prog) w 27 3 p l.length cap 0 0 Tryz.underlying27
  have HI := Lib.hid hI
  cases p with
  | none =>
    have h0 : l = [] := by
      rcases hI with h | ⟨b, o, h, _⟩
      · simpa using h
      · cases h
    subst h0
    have hnil0 := fun w : World => Lib.run_eql_slice_nil (P := Tryz.prog) w 27 3 none 0 cap 0 0 Tryz.underlying27
    simp only [Option.isNone_none] at hnil0
    clear hI hnil
    go_enter Tryz.func72, Tryz.ntmps72
    go_wp2
    go_ret
    exact ⟨_, rfl, ⟨rfl, Or.inl ⟨rfl, rfl⟩⟩, frefl _⟩
  | some a =>
    simp only [Option.isNone_some] at hnil
    clear hI
    go_enter Tryz.func72, Tryz.ntmps72
    go_wp2_with (at_builtin; refine wpList_app_many Tryz.underlying27 infoInt rfl (by decide) (by decide) w _ _ 0 [] (some a) l.length cap (l.map iv) (by simp) (one_ints l) rfl _ _ rfl rfl (World.ownsRow_made w #[] 0 (Nat.le_refl _) (by simp [maxLen]) rfl) rfl (HI.out.keep (fnew (frefl _) _)) (by omega) hn (fnew (frefl _) _) ?_; intro v' w3 hown3 hf3 _)
    have HO := Lib.hid hown3
    have HF := Lib.hid hf3
    clear hown3 hf3
    go_wp2
    go_ret
    have := HO.out
    rw [Nat.zero_add, List.nil_append] at this
    exact ⟨_, rfl, this, HF.out⟩
theorem agR_some {L : List RqT} {order : List Int} {B : List (Int × Int)} (h : gTo L order order.length = some B) : agR L order = (B, heightTo B, true) := by unfold agR; rw [h]
theorem ord_rises {order : List Int} {n : Nat} (h : order.length = n) : ordB order n = risesB (sortI order) n := by
  rw [Bool.eq_iff_iff, ordB_iff, rises_iff]
  constructor
  · rintro ⟨_, h2, h3⟩; exact ⟨h2, h3⟩
  · rintro ⟨h2, h3⟩; exact ⟨h, h2, h3⟩
theorem gTo_good {L : List RqT} (hc : CntOne L) {order : List Int} : ∀ {k : Nat} {B : List (Int × Int)}, gTo L order k = some B → (∀ i ∈ order, 0 ≤ i ∧ i < (L.length : Int)) → k ≤ order.length → BSm B ∧ B.length = L.length := by
  intro k
  induction k with
  | zero =>
    intro B h _ _
    have e : B = List.replicate L.length (0, 0) := by unfold gTo at h; simpa using h.symm
    rw [e]; exact ⟨bsm_rep _, by simp⟩
  | succ k ih =>
    intro B h ho hk
    have hx : order[k]? = some order[k] := List.getElem?_eq_getElem (by omega)
    rw [gTo_succ hx] at h
    cases hp : gTo L order k with
    | none => rw [hp] at h; cases h
    | some B' =>
      obtain ⟨h1, h2⟩ := ih hp ho (by omega)
      rw [hp] at h
      simp only [Option.bind_some] at h
      unfold gStep at h
      cases hf : (fits (takenTo L B' order[k].toNat L.length : Int) (cntOf L order[k].toNat)).head? with
      | none => rw [hf] at h; cases h
      | some f =>
        rw [hf] at h
        simp only [Option.map_some, Option.some.injEq] at h
        subst h
        obtain ⟨o1, o2⟩ := ho _ (List.getElem_mem (by omega : k < order.length))
        have hy : L[order[k].toNat]? = some L[order[k].toNat] := List.getElem?_eq_getElem (by omega)
        have hcn := hc _ (List.mem_of_getElem? hy)
        rw [cntOf_of hy] at hf ⊢
        exact ⟨bsm_set h1 _ (fits_good hcn.1 hcn.2 hf), by rw [List.length_set]; exact h2⟩
set_option maxHeartbeats 4000000 in
set_option maxRecDepth 100000 in
theorem implAssignGreedy_any (v : Value) (n : Net) (u : Value) (L : List RqT) (u2 : Value) (order : List Int) (w : World) (h : NetIn w v n) (hu : RqIn w u L) (ho : IsIn w u2 order) :
    Calls Tryz.prog 17 #[v, u, u2] w (OutAg w (agF n L order)) := by
  obtain ⟨p, cap, l, rfl, hl, hs, hL⟩ := hu
  obtain ⟨po, co, rfl, hio, hno, _, _⟩ := ho
  have HN := Lib.hid h
  have HL := Lib.hid hl
  have HLL := Lib.hid hL
  have HSM := Lib.hid hs
  have hlen : L.length = l.length := by rw [hL]; simp
  have HLEN := Lib.hid hlen
  have HIO := Lib.hid hio
  have hn7 := hs.1
  clear hs hl hL hlen hio
  obtain ⟨q, m, c, p', k', d', rfl⟩ := h.shape
  clear h
  obtain ⟨W1, hW1⟩ : ∃ W1, W1 = w.alloc (.cells #[.slice q m c, .slice p' k' d'] 35) := ⟨_, rfl⟩
  have hf1 : Fresh w W1 := by rw [hW1]; exact fnew (frefl _) _
  have HR1 : Hid (RowAt W1 w.heap.size 35 [.slice q m c, .slice p' k' d']) := by show RowAt _ _ _ _; rw [hW1]; exact RowAt.new _ _ _
  have HF1 := Lib.hid hf1
  have HW1 := Lib.hid hW1
  clear hf1 hW1
  go_enter Tryz.func17, Tryz.ntmps17
  go_wp2_with fail
  rw [← HW1.out]
  refine (cloneI_any po co order W1 (HIO.out.keep HF1.out) hno).mono ?_
  rintro e w1 ⟨vs, rfl, hown, hf⟩
  have HO1 := Lib.hid hown
  have HF2 := Lib.hid hf
  clear hown hf
  go_wp2_with fail
  refine (sort_own W1 _ _ order HO1.out HF2.out (by omega)).mono ?_
  rintro e w2 ⟨rfl, hown, hf⟩
  obtain ⟨ps, cs, rfl, hos⟩ := own_of_row hown
  have HOS := Lib.hid hos
  have HF3 := Lib.hid (fstep HF1.out hf)
  have e0 := (HR1.out.keep hf).cell (i := 0) rfl
  have e1 := (HR1.out.keep hf).cell (i := 1) rfl
  clear hown hf hos HO1 HF2
  go_wp2_with fail
  refine (implIsValidRequests_any _ n p cap l _ (HN.out.keep HF3.out) (HL.out.keep HF3.out) HSM.out).mono ?_
  rintro e w3 ⟨rfl, hb⟩
  have HF4 := Lib.hid (fstep HF3.out hb)
  have HOS4 := Lib.hid (HOS.out.keep hb)
  clear hb e0 e1 HOS
  cases hg : reqsB n (l.map LQ.val)
  · have HE : Hid (agF n L order = ([], 0, false)) := by show _ = _; rw [HLL.out]; exact agF_no hg
    clear hg
    go_wp2
    go_ret3
    rw [HE.out]
    exact ⟨none, 0, rfl, Or.inl ⟨rfl, rfl⟩, HF4.out⟩
  · by_cases hln : order.length = l.length
    · have hne : ((order.length : Int) != (l.length : Int)) = false := by simp [hln]
      have HOR : Hid (ordB order L.length = risesB (sortI order) l.length) := by show _ = _; rw [HLEN.out]; exact ord_rises hln
      have HLN := Lib.hid hln
      have HIS := Lib.hid (isSet_any ps cs (sortI order) l.length w3 HOS4.out.ints (by rw [sortI_len]; exact hno) hn7)
      have his : Hid (Calls Tryz.prog 75 #[.slice ps order.length cs, .int .i64 (l.length : Int)] w3 fun e w' => e = .returned (.bool (risesB (sortI order) l.length)) ∧ w3 = w') := by
        have := HIS.out
        rw [sortI_len] at this
        exact this
      have HG := Lib.hid hg
      clear hln HIS hg
      go_wp2_with fail
      refine (his.out).mono ?_
      rintro e w4 ⟨rfl, rfl⟩
      clear hne
      cases hr : risesB (sortI order) l.length
      · have HE : Hid (agF n L order = ([], 0, false)) := by show _ = _; exact agF_ord (by rw [HOR.out]; exact hr)
        clear hr
        go_wp2
        go_ret3
        rw [HE.out]
        exact ⟨none, 0, rfl, Or.inl ⟨rfl, rfl⟩, HF4.out⟩
      · have HOB : Hid (ordB order L.length = true) := by show _ = _; rw [HOR.out]; exact hr
        obtain ⟨hc1, h7⟩ := reqs_one HG.out
        rw [List.length_map] at h7
        have HAG : Hid (agF n L order = agR (l.map LQ.val) order) := by show _ = _; rw [agF_yes (by rw [HLL.out]; exact HG.out) HOB.out, HLL.out]
        obtain ⟨o1, o2, o3⟩ := ordB_iff.1 HOB.out
        have ho2 : ∀ i ∈ order, 0 ≤ i ∧ i < (l.length : Int) := fun i hi => by have := o2 i hi; rw [HLEN.out] at this; exact this
        have HGR := Lib.hid (greedy_any p po cap co l order w3 (HL.out.keep HF4.out) HSM.out hc1 h7 (HIO.out.keep HF4.out) hno ho2 o3)
        have HGD := Lib.hid (fun (B : List (Int × Int)) (hB : gTo (l.map LQ.val) order order.length = some B) => gTo_good hc1 hB (by rw [List.length_map]; exact ho2) (Nat.le_refl _))
        obtain ⟨R, hR⟩ : ∃ R, R = gTo (l.map LQ.val) order order.length := ⟨_, rfl⟩
        rw [← hR] at HGR HGD
        have HR := Lib.hid hR
        clear hr hc1 o1 o2 o3 ho2 hR
        go_wp2_with fail
        refine (HGR.out).mono ?_
        rintro e w5 ⟨pg, cg, rfl, hog, hb⟩
        have HOG := Lib.hid hog
        have HF5 := Lib.hid (fstep HF4.out hb)
        have HS5 := Lib.hid HF4.out.size
        clear hb hog
        cases R with
        | none =>
          have HE : Hid (agF n L order = ([], 0, false)) := by show _ = _; rw [HAG.out]; exact agR_none (Nat.le_refl _) HR.out.symm
          simp only [Option.getD_none, Option.isSome_none]
          go_wp2
          go_ret3
          rw [HE.out]
          exact ⟨none, 0, rfl, Or.inl ⟨rfl, rfl⟩, HF5.out⟩
        | some B =>
          have HE : Hid (agF n L order = (B, heightTo B, true)) := by show _ = _; rw [HAG.out]; exact agR_some HR.out.symm
          obtain ⟨hbs, hbl⟩ := HGD.out B rfl
          rw [List.length_map] at hbl
          have HB := Lib.hid hbs
          have hbn : B.length ≤ 1048576 := by rw [hbl]; omega
          simp only [Option.getD_some, Option.isSome_some] at HOG ⊢
          clear hbs hbl
          go_wp2_with fail
          refine (heightOf_w pg cg B _ (HOG.out.cells) HB.out hbn).mono ?_
          rintro e w6 ⟨rfl, hb⟩
          have HOG6 := Lib.hid (HOG.out.keep hb)
          have HF6 := Lib.hid (fstep HF5.out hb)
          clear hb HOG
          go_wp2
          go_ret3
          rw [HE.out]
          exact ⟨pg, cg, rfl, HOG6.out.mono HS5.out, HF6.out⟩
    · have hne : ((order.length : Int) != (l.length : Int)) = true := by
        rw [bne_iff_ne]; omega
      have HE : Hid (agF n L order = ([], 0, false)) := by show _ = _; exact agF_ord (ordB_len (by rw [HLEN.out]; exact hln))
      clear hg hln
      go_wp2
      go_ret3
      rw [HE.out]
      exact ⟨none, 0, rfl, Or.inl ⟨rfl, rfl⟩, HF4.out⟩
theorem agF_len (n : Net) (L : List RqT) (order : List Int) : (agF n L order).1.length ≤ 1048576 := by
  unfold agF
  split
  · next h =>
    obtain ⟨h1, h2⟩ := h
    obtain ⟨hc, h7⟩ := reqs_one h1
    obtain ⟨o1, o2, o3⟩ := ordB_iff.1 h2
    cases hg : gTo L order order.length with
    | none => simp
    | some B =>
      obtain ⟨_, hb⟩ := gTo_good hc hg o2 (Nat.le_refl _)
      show B.length ≤ _
      omega
  · simp
theorem specAssignGreedy_l (v : Value) (n : Net) (u : Value) (L : List RqT) (u2 : Value) (order : List Int) (w : World) (h : NetIn w v n) (hu : RqIn w u L) (ho : IsIn w u2 order) :
    Calls Tryz.prog 13 #[v, u, u2] w (fun e w' => ∃ p c, e = .returned (.tuple #[.slice p (agF n L order).1.length c, .int .i64 (agF n L order).2.1, .bool (agF n L order).2.2]) ∧ Own w' w.heap.size 82 p (pcs (agF n L order).1) ∧ Fresh w w') := specAssignGreedy_any v n u L u2 order w h hu ho
theorem implAssignGreedy_l (v : Value) (n : Net) (u : Value) (L : List RqT) (u2 : Value) (order : List Int) (w : World) (h : NetIn w v n) (hu : RqIn w u L) (ho : IsIn w u2 order) :
    Calls Tryz.prog 17 #[v, u, u2] w (fun e w' => ∃ p c, e = .returned (.tuple #[.slice p (agF n L order).1.length c, .int .i64 (agF n L order).2.1, .bool (agF n L order).2.2]) ∧ Own w' w.heap.size 82 p (pcs (agF n L order).1) ∧ Fresh w w') := implAssignGreedy_any v n u L u2 order w h hu ho
end Go.Proofs.YtjaacinngfblkaaGreat
