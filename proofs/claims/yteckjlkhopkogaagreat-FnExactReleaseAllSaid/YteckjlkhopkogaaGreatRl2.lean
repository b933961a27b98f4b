/- Contracts: ReleaseAll, the reference's side. -/
import Derived.Test.YteckjlkhopkogaaGreatRl
import Derived.Test.YteckjlkhopkogaaGreatWo2
namespace Go.Proofs.YteckjlkhopkogaaGreat
open Go.RowKit Go.PlainAid

theorem kq_5 {w1 w2 : World} {a b c i : Nat} {u0 u1 u2 u3 v0 : Value} (h : w1.cell? ⟨a, 0, none⟩ = some u0 ∧ w1.cell? ⟨a, 1, none⟩ = some u1 ∧ w1.cell? ⟨a, 2, none⟩ = some u2 ∧ w1.cell? ⟨c, 3, none⟩ = some u3 ∧ w1.cell? ⟨b, i, none⟩ = some v0) (hb : Fresh w1 w2) :
    w2.cell? ⟨a, 0, none⟩ = some u0 ∧ w2.cell? ⟨a, 1, none⟩ = some u1 ∧ w2.cell? ⟨a, 2, none⟩ = some u2 ∧ w2.cell? ⟨c, 3, none⟩ = some u3 ∧ w2.cell? ⟨b, i, none⟩ = some v0 :=
  ⟨fkeep hb h.1, fkeep hb h.2.1, fkeep hb h.2.2.1, fkeep hb h.2.2.2.1, fkeep hb h.2.2.2.2⟩
theorem keepL_len (L : List LtV) (ids : List Int) : (keepL L ids).length ≤ L.length := List.length_filter_le _ _
theorem keepL_at {P : PlanV} (hs : PlSmall P) (ids : List Int) : PlSmall ⟨P.net, keepL P.lights ids⟩ := by
  have h := relF_small P ids hs
  obtain ⟨a1, a3, a4⟩ := hs
  exact ⟨a1, Nat.le_trans (keepL_len _ _) a3, fun x hx => a4 x (List.mem_filter.1 hx).1⟩
/-- A plan that lies in a box of the call's own. -/
def PlBox (w : World) (base G : Nat) (P : PlanV) : Prop := ∃ a0 a1 a2 b0 b1 b2 c0 c1 c2, RowAt w G 38 [.slice a0 a1 a2, .slice b0 b1 b2, .slice c0 c1 c2] ∧ PlOwn w base (.agg #[.slice a0 a1 a2, .slice b0 b1 b2, .slice c0 c1 c2]) P
theorem PlBox.keep {w w' : World} {base G : Nat} {P : PlanV} (h : PlBox w base G P) (hb : Fresh w w') : PlBox w' base G P := by
  obtain ⟨a0, a1, a2, b0, b1, b2, c0, c1, c2, h1, h2⟩ := h
  exact ⟨a0, a1, a2, b0, b1, b2, c0, c1, c2, h1.keep hb, h2.keep hb⟩
set_option maxHeartbeats 8000000 in
set_option maxRecDepth 100000 in
theorem specReleaseAll_any (v : Value) (S : SdV) (w : World) (h : SdIn w v S) : Calls Tryz.prog 10 #[v] w fun e w' => ∃ v', e = .returned (.tuple #[v', .bool (relF S.1 S.2.1).2]) ∧ PlOwn w' w.heap.size v' (relF S.1 S.2.1).1 ∧ Fresh w w' := by
  obtain ⟨P, ids, bk⟩ := S
  obtain ⟨q, m, c, p, k, d, r, i, e0, t, y, rfl, hP, ht, hn⟩ := h
  simp only at hP ht hn ⊢
  obtain ⟨W2, hW2, hsz2, hf2, r1, r2⟩ := two_rows w [.slice q m c, .slice p k d, .slice r i e0, .slice t ids.length y, .int .i64 bk] [.slice none 0 0, .slice none 0 0, .slice none 0 0] 42 38
  have HP := Lib.hid hP
  have HT := Lib.hid ht
  have HC := Lib.hid (l9Good_any _ P W2 (hP.keep hf2))
  have HF2 := Lib.hid hf2
  have HR1 := Lib.hid r1
  have HR2 := Lib.hid r2
  have HW2 := Lib.hid hW2
  have hsz := hf2.size
  have hsm := hP.isSmall
  have HSM : Hid (∀ l, PlSmall ⟨P.net, keepL P.lights l⟩) := fun l => keepL_at hsm l
  have HEND : Hid (∀ W, Fresh W2 W → relB P ids = false → ∀ e, e = Ending.returned (.tuple #[.agg #[.slice none 0 0, .slice none 0 0, .slice none 0 0], .bool false]) → ∃ v', e = .returned (.tuple #[v', .bool (relF P ids).2]) ∧ PlOwn (((W.setCell ⟨w.heap.size + 1, 0, none⟩ (.slice none 0 0)).setCell ⟨w.heap.size + 1, 1, none⟩ (.slice none 0 0)).setCell ⟨w.heap.size + 1, 2, none⟩ (.slice none 0 0)) w.heap.size v' (relF P ids).1 ∧ Fresh w (((W.setCell ⟨w.heap.size + 1, 0, none⟩ (.slice none 0 0)).setCell ⟨w.heap.size + 1, 1, none⟩ (.slice none 0 0)).setCell ⟨w.heap.size + 1, 2, none⟩ (.slice none 0 0))) := fun W hW hno e he => by
    rw [relF_no hno]
    exact ⟨_, he, zeroP_own _ _, fset (fset (fset (fstep HF2.out hW) (by omega) _) (by omega) _) (by omega) _⟩
  have HCF : Hid (∀ W x, Fresh W2 W → Calls Tryz.prog 46 #[.agg #[.slice q m c, .slice p k d, .slice r i e0], .int .i64 x] W fun e w' => e = .returned (.int .i64 (findL P.lights x)) ∧ Fresh W w') := fun W x hW => l9Find_any _ P x W (HP.out.keep (fstep HF2.out hW))
  clear hP ht hf2 r1 r2 hW2 hsm
  cases hpl : planB P
  · rw [hpl] at HC
    have HNO : Hid (relB P ids = false) := relB_plan hpl
    clear hpl
    go_enter Tryz.func10, Tryz.ntmps10
    go_wp2_with fail
    rw [← HW2.out]
    refine (HC.out).mono ?_
    rintro e w1 ⟨rfl, hb⟩
    have hz := HR2.out.keep hb
    have x0 := hz.cell (i := 0) rfl
    have x1 := hz.cell (i := 1) rfl
    have x2 := hz.cell (i := 2) rfl
    have u0 := hz.frozen 0
    have u1 := hz.frozen 1
    have u2 := hz.frozen 2
    have hfin := ((hz.set 0 (.slice none 0 0)).set 1 (.slice none 0 0)).set 2 (.slice none 0 0)
    have k0 := hfin.cell (i := 0) rfl
    have k1 := hfin.cell (i := 1) rfl
    have k2 := hfin.cell (i := 2) rfl
    have HB := Lib.hid hb
    clear hz hfin hb HC
    go_wp2
    refine bodyPost_ret (v := .tuple #[.agg #[.slice none 0 0, .slice none 0 0, .slice none 0 0], .bool false]) (by simp [results, Tryz.results10, go_sem, k0, k1, k2]) rfl ?_
    exact HEND.out _ HB.out HNO.out _ rfl
  rw [hpl] at HC
  have HIDS := Lib.hid (planB_ids hpl)
  have HINC := Lib.hid (planB_inc hpl)
  have HPB := Lib.hid hpl
  clear hpl
  go_enter Tryz.func10, Tryz.ntmps10
  go_wp2_with fail
  rw [← HW2.out]
  refine (HC.out).mono ?_
  rintro e w1 ⟨rfl, hb⟩
  have HB1 := Lib.hid hb
  have hz1 := hb.size
  have a0 := (HR1.out.keep hb).cell (i := 0) rfl
  have a1 := (HR1.out.keep hb).cell (i := 1) rfl
  have a2 := (HR1.out.keep hb).cell (i := 2) rfl
  have HCO := Lib.hid (l9Own_any _ P w1 (HP.out.keep (fstep HF2.out hb)))
  clear hb HC
  go_wp2_with fail
  refine (HCO.out).mono ?_
  rintro e w3 ⟨v1, rfl, ho, hb⟩
  obtain ⟨a0', a1', a2', b0, b1, b2, c0, c1, c2, rfl⟩ := ho.shape
  obtain ⟨W4, hW4⟩ : ∃ W, W = w3.alloc (.cells #[.slice a0' a1' a2', .slice b0 b1 b2, .slice c0 c1 c2] 38) := ⟨_, rfl⟩
  have hz3 := hb.size
  have hGw : w.heap.size + 1 < w3.heap.size := by omega
  have hf4 : Fresh w3 W4 := by rw [hW4]; exact fnew (frefl _) _
  have HBOX : Hid (PlBox W4 w.heap.size w3.heap.size ⟨P.net, keepL P.lights []⟩) := by
    show PlBox _ _ _ _
    rw [keepL_nil]
    exact ⟨a0', a1', a2', b0, b1, b2, c0, c1, c2, by rw [hW4]; exact RowAt.new _ _ _, (ho.mono (by omega)).keep hf4⟩
  have HF4 := Lib.hid (fstep HB1.out (fstep hb hf4))
  have HW4 := Lib.hid hW4
  clear ho hb hf4 hW4 a0 a1 a2 HCO
  go_wp2
  try rw [← HW4.out]
  go_loopw [5] (fun vi wr => ∃ j : Nat, j ≤ ids.length ∧ vi = .int .i64 j ∧ (∀ x ∈ ids.take j, x = 0 ∨ 0 ≤ findL P.lights x) ∧ PlBox wr w.heap.size w3.heap.size ⟨P.net, keepL P.lights (ids.take j)⟩ ∧ Fresh W2 wr) (fun vi _ => ids.length - (intOf vi).toNat)
  case atStart => exact ⟨0, Nat.zero_le _, rfl, (by intro x hx; simp at hx), HBOX.out, HF4.out⟩
  case round =>
    obtain ⟨j, hj, rfl, hgood, hbox, hf⟩ := hrel
    have HBX := Lib.hid hbox
    have HF := Lib.hid hf
    have HG := Lib.hid hgood
    have hrs := HR1.out.keep hf
    have a3 := hrs.cell (i := 3) rfl
    by_cases hlt : j < ids.length
    · have hltz : (j : Int) < (ids.length : Int) := by omega
      obtain ⟨bt, ot, x, rfl, hx, x0⟩ := ((HT.out.keep HF2.out).keep hf).at hlt
      have HTK : Hid (ids.take (j + 1) = ids.take j ++ [x]) := by show _ = _; rw [List.take_add_one, hx]; rfl
      have HM := Lib.hid (List.mem_of_getElem? hx)
      by_cases hx0 : x = 0
      · have g1 : (x == 0) = true := by simp [hx0]
        have HX0 := Lib.hid hx0
        clear hx hx0 hbox hf hgood hrs
        go_wp2
        go_roundw
        case rel =>
          refine ⟨j + 1, hlt, by go_num, ?_, ?_, HF.out⟩
          · intro z hz
            rw [HTK.out] at hz
            rcases List.mem_append.1 hz with hz | hz
            · exact HG.out z hz
            · rw [List.mem_singleton] at hz
              left; rw [hz, HX0.out]
          · rw [HTK.out, HX0.out, keepL_zero HIDS.out]
            exact HBX.out
        case measure => simp [intOf]; omega
      · have g1 : (x == 0) = false := by simp [hx0]
        have HX0 := Lib.hid hx0
        obtain ⟨f, hfd⟩ : ∃ f, f = findL P.lights x := ⟨_, rfl⟩
        have HFD := Lib.hid hfd
        have HCX : Hid (∀ W, Fresh wr W → Calls Tryz.prog 46 #[.agg #[.slice q m c, .slice p k d, .slice r i e0], .int .i64 x] W fun e w' => e = .returned (.int .i64 f) ∧ Fresh W w') := fun W hW => by rw [hfd]; exact HCF.out W x (fstep HF.out hW)
        have HSS : wr.cell? ⟨w.heap.size, 0, none⟩ = some (.slice q m c) ∧ wr.cell? ⟨w.heap.size, 1, none⟩ = some (.slice p k d) ∧ wr.cell? ⟨w.heap.size, 2, none⟩ = some (.slice r i e0) ∧ wr.cell? ⟨w.heap.size, 3, none⟩ = some (.slice (some ⟨bt, ot, none⟩) ids.length y) ∧ wr.cell? ⟨bt, ot + j, none⟩ = some (.int .i64 x) :=
          ⟨hrs.cell (i := 0) rfl, hrs.cell (i := 1) rfl, hrs.cell (i := 2) rfl, a3, x0⟩
        clear hx hx0 hbox hf hgood hrs hfd
        go_upto_region 8 with fail
        refine hd_start (n := 8) (S := fun w' => w'.cell? ⟨w.heap.size, 0, none⟩ = some (.slice q m c) ∧ w'.cell? ⟨w.heap.size, 1, none⟩ = some (.slice p k d) ∧ w'.cell? ⟨w.heap.size, 2, none⟩ = some (.slice r i e0) ∧ w'.cell? ⟨w.heap.size, 3, none⟩ = some (.slice (some ⟨bt, ot, none⟩) ids.length y) ∧ w'.cell? ⟨bt, ot + j, none⟩ = some (.int .i64 x)) (by kernel_rfl) (by kernel_rfl) (kq_5 HSS (fdrew (frefl _))) (fun hHeld => ?_)
        obtain ⟨Wz, hWz⟩ : ∃ W, W = wr.drew := ⟨_, rfl⟩
        rw [← hWz] at hHeld ⊢
        have f0 : Fresh wr Wz := by rw [hWz]; exact fdrew (frefl _)
        clear hWz a3 x0
        refine hd_take (i := 0) (v := ?_) rfl (by kernel_rfl) (by kernel_rfl) (by kernel_rfl) (by kernel_rfl) (fun _ _ _ h => h) (by assumption) (Or.inl ⟨by rfl, ?_⟩) ?_
        rotate_left
        · (intro w hSw; (try dsimp only at hSw); go_simp; first | done | with_reducible rfl)
        try simp only [Act.put, List.getElem_toArray, List.getElem_cons_zero, List.setIfInBounds_toArray, List.set_cons_zero, List.set_cons_succ]
        refine hd_take (i := 1) (v := ?_) rfl (by kernel_rfl) (by kernel_rfl) (by kernel_rfl) (by kernel_rfl) (fun _ _ _ h => h) (by assumption) (Or.inl ⟨by rfl, ?_⟩) ?_
        rotate_left
        · (intro w hSw; (try dsimp only at hSw); go_simp; first | done | with_reducible rfl)
        try simp only [Act.put, List.getElem_toArray, List.getElem_cons_succ, List.getElem_cons_zero, List.setIfInBounds_toArray, List.set_cons_zero, List.set_cons_succ]
        refine hd_take (i := 2) (v := ?_) rfl (by kernel_rfl) (by kernel_rfl) (by kernel_rfl) (by kernel_rfl) (fun _ _ _ h => h) (by assumption) (Or.inl ⟨by rfl, ?_⟩) ?_
        rotate_left
        · (intro w hSw; (try dsimp only at hSw); go_simp; first | done | with_reducible rfl)
        try simp only [Act.put, List.getElem_toArray, List.getElem_cons_succ, List.getElem_cons_zero, List.setIfInBounds_toArray, List.set_cons_zero, List.set_cons_succ]
        refine hd_take (i := 3) (v := ?_) rfl (by kernel_rfl) (by kernel_rfl) (by kernel_rfl) (by kernel_rfl) (fun _ _ _ h => h) (by assumption) (Or.inl ⟨by rfl, ?_⟩) ?_
        rotate_left
        · (intro w hSw; (try dsimp only at hSw); go_simp; first | done | with_reducible rfl)
        try simp only [Act.put, List.getElem_toArray, List.getElem_cons_succ, List.getElem_cons_zero, List.setIfInBounds_toArray, List.set_cons_zero, List.set_cons_succ]
        refine hd_take (i := 4) (v := ?_) rfl (by kernel_rfl) (by kernel_rfl) (by kernel_rfl) (by kernel_rfl) (fun _ _ _ h => h) (by assumption) (Or.inl ⟨by rfl, ?_⟩) ?_
        rotate_left
        · (intro w hSw; (try dsimp only at hSw); go_simp; first | done | with_reducible rfl)
        try simp only [Act.put, List.getElem_toArray, List.getElem_cons_succ, List.getElem_cons_zero, List.setIfInBounds_toArray, List.set_cons_zero, List.set_cons_succ]
        refine hd_take (i := 5) (v := ?_) rfl (by kernel_rfl) (by kernel_rfl) (by kernel_rfl) (by kernel_rfl) (fun _ _ _ h => h) (by assumption) (Or.inl ⟨by rfl, ?_⟩) ?_
        rotate_left
        · (intro w hSw; (try dsimp only at hSw); go_simp; first | done | with_reducible rfl)
        try simp only [Act.put, List.getElem_toArray, List.getElem_cons_succ, List.getElem_cons_zero, List.setIfInBounds_toArray, List.set_cons_zero, List.set_cons_succ]
        refine hd_take (i := 6) (v := ?_) rfl (by kernel_rfl) (by kernel_rfl) (by kernel_rfl) (by kernel_rfl) (fun _ _ _ h => h) (by assumption) (Or.inl ⟨by rfl, ?_⟩) ?_
        rotate_left
        · (intro w hSw; (try dsimp only at hSw); go_simp; first | done | with_reducible rfl)
        try simp only [Act.put, List.getElem_toArray, List.getElem_cons_succ, List.getElem_cons_zero, List.setIfInBounds_toArray, List.set_cons_zero, List.set_cons_succ]
        refine hd_one (i := 7) rfl (by kernel_rfl) (by kernel_rfl) (fun K hK => ?_)
        go_simp
        go_at_call 46
        refine (HCX.out _ f0).mono ?_
        rintro e w5 ⟨rfl, hb⟩
        have f1 := fstep f0 hb
        clear hb
        go_wp2_with fail
        refine hK.out _ _ ?_ (fun hHeld => ?_)
        · exact kq_5 HSS f1
        clear hK K
        try simp only [Act.put, List.getElem_toArray, List.getElem_cons_succ, List.getElem_cons_zero, List.setIfInBounds_toArray, List.set_cons_zero, List.set_cons_succ]
        refine hd_done (by kernel_rfl) ?_
        clear hHeld
        simp only [List.drop_succ_cons, List.drop_zero]
        have HF5 := Lib.hid (fstep HF.out f1)
        have HBX5 := Lib.hid (HBX.out.keep f1)
        have HSS5 := kq_5 HSS f1
        clear f0 f1 HSS HCX HBX
        by_cases hneg : f < 0
        · have HNO : Hid (relB P ids = false) := relB_bad HM.out HX0.out (by rw [← HFD.out]; exact hneg)
          have hz := HR2.out.keep HF5.out
          have x0 := hz.cell (i := 0) rfl
          have x1 := hz.cell (i := 1) rfl
          have x2 := hz.cell (i := 2) rfl
          have u0 := hz.frozen 0
          have u1 := hz.frozen 1
          have u2 := hz.frozen 2
          have hfin := ((hz.set 0 (.slice none 0 0)).set 1 (.slice none 0 0)).set 2 (.slice none 0 0)
          have k0 := hfin.cell (i := 0) rfl
          have k1 := hfin.cell (i := 1) rfl
          have k2 := hfin.cell (i := 2) rfl
          clear hz hfin HSS5
          go_wp2
          refine bodyPost_ret (v := .tuple #[.agg #[.slice none 0 0, .slice none 0 0, .slice none 0 0], .bool false]) (by simp [results, Tryz.results10, go_sem, k0, k1, k2]) rfl ?_
          exact HEND.out _ HF5.out HNO.out _ rfl
        · have HNN := Lib.hid hneg
          obtain ⟨a0, a1, a2, b0, b1, b2, c0, c1, c2, hrow, hown⟩ := HBX5.out
          have HROW := Lib.hid hrow
          have HOW := Lib.hid hown
          obtain ⟨_, _, _, x3, x4⟩ := HSS5
          have HSG : w5.cell? ⟨w3.heap.size, 0, none⟩ = some (.slice a0 a1 a2) ∧ w5.cell? ⟨w3.heap.size, 1, none⟩ = some (.slice b0 b1 b2) ∧ w5.cell? ⟨w3.heap.size, 2, none⟩ = some (.slice c0 c1 c2) ∧ w5.cell? ⟨w.heap.size, 3, none⟩ = some (.slice (some ⟨bt, ot, none⟩) ids.length y) ∧ w5.cell? ⟨bt, ot + j, none⟩ = some (.int .i64 x) :=
            ⟨hrow.cell (i := 0) rfl, hrow.cell (i := 1) rfl, hrow.cell (i := 2) rfl, x3, x4⟩
          obtain ⟨K0, hK0⟩ : ∃ L, L = keepL P.lights (ids.take j) := ⟨_, rfl⟩
          have HK0 := Lib.hid hK0
          rw [← hK0] at HOW
          have HSMK : Hid (PlSmall ⟨P.net, K0⟩) := by show PlSmall _; rw [hK0]; exact HSM.out _
          obtain ⟨g, hgd⟩ : ∃ f, f = findL K0 x := ⟨_, rfl⟩
          have HGD := Lib.hid hgd
          have hlo : -1 ≤ g := by rw [hgd]; exact (idxP_lo K0 fun z => z.1 == x).1
          have HCX : Hid (∀ W, Fresh w5 W → Calls Tryz.prog 46 #[.agg #[.slice a0 a1 a2, .slice b0 b1 b2, .slice c0 c1 c2], .int .i64 x] W fun e w' => e = .returned (.int .i64 g) ∧ Fresh W w') := fun W hW => by rw [hgd]; exact l9Find_any _ ⟨P.net, K0⟩ x W ((HOW.out.keep hW).plIn HSMK.out)
          clear hrow hown x3 x4 hK0 hgd hneg
          go_upto_region 10 with fail
          refine hd_start (n := 7) (S := fun w' => w'.cell? ⟨w3.heap.size, 0, none⟩ = some (.slice a0 a1 a2) ∧ w'.cell? ⟨w3.heap.size, 1, none⟩ = some (.slice b0 b1 b2) ∧ w'.cell? ⟨w3.heap.size, 2, none⟩ = some (.slice c0 c1 c2) ∧ w'.cell? ⟨w.heap.size, 3, none⟩ = some (.slice (some ⟨bt, ot, none⟩) ids.length y) ∧ w'.cell? ⟨bt, ot + j, none⟩ = some (.int .i64 x)) (by kernel_rfl) (by kernel_rfl) (kq_5 HSG (fdrew (frefl _))) (fun hHeld => ?_)
          obtain ⟨Wz, hWz⟩ : ∃ W, W = w5.drew := ⟨_, rfl⟩
          rw [← hWz] at hHeld ⊢
          have f0 : Fresh w5 Wz := by rw [hWz]; exact fdrew (frefl _)
          clear hWz
          refine hd_take (i := 0) (v := ?_) rfl (by kernel_rfl) (by kernel_rfl) (by kernel_rfl) (by kernel_rfl) (fun _ _ _ h => h) (by assumption) (Or.inl ⟨by rfl, ?_⟩) ?_
          rotate_left
          · (intro w hSw; (try dsimp only at hSw); go_simp; first | done | with_reducible rfl)
          try simp only [Act.put, List.getElem_toArray, List.getElem_cons_zero, List.setIfInBounds_toArray, List.set_cons_zero, List.set_cons_succ]
          refine hd_take (i := 1) (v := ?_) rfl (by kernel_rfl) (by kernel_rfl) (by kernel_rfl) (by kernel_rfl) (fun _ _ _ h => h) (by assumption) (Or.inl ⟨by rfl, ?_⟩) ?_
          rotate_left
          · (intro w hSw; (try dsimp only at hSw); go_simp; first | done | with_reducible rfl)
          try simp only [Act.put, List.getElem_toArray, List.getElem_cons_succ, List.getElem_cons_zero, List.setIfInBounds_toArray, List.set_cons_zero, List.set_cons_succ]
          refine hd_take (i := 2) (v := ?_) rfl (by kernel_rfl) (by kernel_rfl) (by kernel_rfl) (by kernel_rfl) (fun _ _ _ h => h) (by assumption) (Or.inl ⟨by rfl, ?_⟩) ?_
          rotate_left
          · (intro w hSw; (try dsimp only at hSw); go_simp; first | done | with_reducible rfl)
          try simp only [Act.put, List.getElem_toArray, List.getElem_cons_succ, List.getElem_cons_zero, List.setIfInBounds_toArray, List.set_cons_zero, List.set_cons_succ]
          refine hd_take (i := 3) (v := ?_) rfl (by kernel_rfl) (by kernel_rfl) (by kernel_rfl) (by kernel_rfl) (fun _ _ _ h => h) (by assumption) (Or.inl ⟨by rfl, ?_⟩) ?_
          rotate_left
          · (intro w hSw; (try dsimp only at hSw); go_simp; first | done | with_reducible rfl)
          try simp only [Act.put, List.getElem_toArray, List.getElem_cons_succ, List.getElem_cons_zero, List.setIfInBounds_toArray, List.set_cons_zero, List.set_cons_succ]
          refine hd_take (i := 4) (v := ?_) rfl (by kernel_rfl) (by kernel_rfl) (by kernel_rfl) (by kernel_rfl) (fun _ _ _ h => h) (by assumption) (Or.inl ⟨by rfl, ?_⟩) ?_
          rotate_left
          · (intro w hSw; (try dsimp only at hSw); go_simp; first | done | with_reducible rfl)
          try simp only [Act.put, List.getElem_toArray, List.getElem_cons_succ, List.getElem_cons_zero, List.setIfInBounds_toArray, List.set_cons_zero, List.set_cons_succ]
          refine hd_take (i := 5) (v := ?_) rfl (by kernel_rfl) (by kernel_rfl) (by kernel_rfl) (by kernel_rfl) (fun _ _ _ h => h) (by assumption) (Or.inl ⟨by rfl, ?_⟩) ?_
          rotate_left
          · (intro w hSw; (try dsimp only at hSw); go_simp; first | done | with_reducible rfl)
          try simp only [Act.put, List.getElem_toArray, List.getElem_cons_succ, List.getElem_cons_zero, List.setIfInBounds_toArray, List.set_cons_zero, List.set_cons_succ]
          refine hd_one (i := 6) rfl (by kernel_rfl) (by kernel_rfl) (fun K hK => ?_)
          go_simp
          go_at_call 46
          refine (HCX.out _ f0).mono ?_
          rintro e w6 ⟨rfl, hb⟩
          have f1 := fstep f0 hb
          clear hb
          go_wp2_with fail
          refine hK.out _ _ ?_ (fun hHeld => ?_)
          · exact kq_5 HSG f1
          clear hK K
          try simp only [Act.put, List.getElem_toArray, List.getElem_cons_succ, List.getElem_cons_zero, List.setIfInBounds_toArray, List.set_cons_zero, List.set_cons_succ]
          refine hd_done (by kernel_rfl) ?_
          clear hHeld
          simp only [List.drop_succ_cons, List.drop_zero]
          have HF6 := Lib.hid (fstep HF5.out f1)
          have HR6 := Lib.hid (HROW.out.keep f1)
          have HO6 := Lib.hid (HOW.out.keep f1)
          have HGOOD : Hid (∀ z ∈ ids.take (j + 1), z = 0 ∨ 0 ≤ findL P.lights z) := by
            intro z hz
            rw [HTK.out] at hz
            rcases List.mem_append.1 hz with hz | hz
            · exact HG.out z hz
            · rw [List.mem_singleton] at hz
              right; rw [hz, ← HFD.out]; have := HNN.out; omega
          clear f0 f1 HSG HCX HROW HOW HBX5
          by_cases hge : 0 ≤ g
          · obtain ⟨n, rfl⟩ : ∃ n : Nat, g = (n : Int) := ⟨g.toNat, by omega⟩
            have hnl : n < K0.length := by have := findL_lt (L := K0) (id := x) (by rw [← HGD.out]; omega); rw [← HGD.out] at this; simpa using this
            have HKE : Hid (keepL P.lights (ids.take (j + 1)) = K0.eraseIdx n) := by
              show _ = _
              have h1 : 0 ≤ findL (keepL P.lights (ids.take j)) x := by rw [← HK0.out, ← HGD.out]; omega
              rw [HTK.out, keepL_some HINC.out h1, ← HK0.out, ← HGD.out]; simp
            have HWO := Lib.hid (l9Without_any (.agg #[.slice a0 a1 a2, .slice b0 b1 b2, .slice c0 c1 c2]) ⟨P.net, K0⟩ n w6 (HO6.out.plIn HSMK.out) hnl)
            have d0 := HR6.out.cell (i := 0) rfl
            have d1 := HR6.out.cell (i := 1) rfl
            have d2 := HR6.out.cell (i := 2) rfl
            go_wp2_with fail
            refine (HWO.out).mono ?_
            rintro e w7 ⟨v2, rfl, ho, hb⟩
            obtain ⟨a0', a1', a2', b0', b1', b2', c0', c1', c2', rfl⟩ := ho.shape
            have hz := HR6.out.keep hb
            have x0 := hz.cell (i := 0) rfl
            have x1 := hz.cell (i := 1) rfl
            have x2 := hz.cell (i := 2) rfl
            have u0 := hz.frozen 0
            have u1 := hz.frozen 1
            have u2 := hz.frozen 2
            have hfin := ((hz.set 0 (.slice a0' a1' a2')).set 1 (.slice b0' b1' b2')).set 2 (.slice c0' c1' c2')
            have HFIN := Lib.hid hfin
            have HO7 := Lib.hid ((((ho.mono (show w.heap.size ≤ w6.heap.size from (fstep HF2.out HF6.out).size)).setO hz 0 (.slice a0' a1' a2')).setO (hz.set 0 _) 1 (.slice b0' b1' b2')).setO ((hz.set 0 _).set 1 _) 2 (.slice c0' c1' c2'))
            have HFF : Hid (Fresh W2 (((w7.setCell ⟨w3.heap.size, 0, none⟩ (.slice a0' a1' a2')).setCell ⟨w3.heap.size, 1, none⟩ (.slice b0' b1' b2')).setCell ⟨w3.heap.size, 2, none⟩ (.slice c0' c1' c2'))) := fset (fset (fset (fstep HF6.out hb) (by omega) _) (by omega) _) (by omega) _
            clear hz hfin ho hb HWO d0 d1 d2
            go_wp2
            go_roundw
            case rel => exact ⟨j + 1, hlt, by go_num, HGOOD.out, ⟨_, _, _, _, _, _, _, _, _, HFIN.out, by rw [HKE.out]; exact HO7.out⟩, HFF.out⟩
            case measure => simp [intOf]; omega
          · have HKE : Hid (keepL P.lights (ids.take (j + 1)) = K0) := by
              show _ = _
              have h1 : findL (keepL P.lights (ids.take j)) x < 0 := by rw [← HK0.out, ← HGD.out]; omega
              rw [HTK.out, keepL_none h1, ← HK0.out]
            clear hlo
            go_wp2
            go_roundw
            case rel => exact ⟨j + 1, hlt, by go_num, HGOOD.out, ⟨_, _, _, _, _, _, _, _, _, HR6.out, by rw [HKE.out]; exact HO6.out⟩, HF6.out⟩
            case measure => simp [intOf]; omega
    · have hltz : ¬ (j : Int) < (ids.length : Int) := by omega
      have htk : ids.take j = ids := List.take_of_length_le (by omega)
      have HYES : Hid (relF P ids = (⟨P.net, keepL P.lights ids⟩, true)) := relF_yes (relB_end HPB.out (by rw [← htk]; exact HG.out))
      obtain ⟨a0, a1, a2, b0, b1, b2, c0, c1, c2, hrow, hown⟩ := HBX.out
      rw [htk] at hown
      have d0 := hrow.cell (i := 0) rfl
      have d1 := hrow.cell (i := 1) rfl
      have d2 := hrow.cell (i := 2) rfl
      have hz := HR2.out.keep HF.out
      have x0 := hz.cell (i := 0) rfl
      have x1 := hz.cell (i := 1) rfl
      have x2 := hz.cell (i := 2) rfl
      have u0 := hz.frozen 0
      have u1 := hz.frozen 1
      have u2 := hz.frozen 2
      have hfin := ((hz.set 0 (.slice a0 a1 a2)).set 1 (.slice b0 b1 b2)).set 2 (.slice c0 c1 c2)
      have k0 := hfin.cell (i := 0) rfl
      have k1 := hfin.cell (i := 1) rfl
      have k2 := hfin.cell (i := 2) rfl
      have HO := Lib.hid hown
      have HZ := Lib.hid hz
      clear hrow hown hz hfin hbox hf hgood hrs htk
      go_wp2
      refine bodyPost_ret (v := .tuple #[.agg #[.slice a0 a1 a2, .slice b0 b1 b2, .slice c0 c1 c2], .bool true]) (by simp [results, Tryz.results10, go_sem, k0, k1, k2]) rfl ?_
      rw [HYES.out]
      exact ⟨_, rfl, HO.out.box HZ.out, fset (fset (fset (fstep HF2.out HF.out) (by omega) _) (by omega) _) (by omega) _⟩
end Go.Proofs.YteckjlkhopkogaaGreat
