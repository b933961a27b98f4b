/- Contracts: MoveLight, the program's side. -/
import Derived.Test.YtgiinjleehgkoaaGreatMvP
import Derived.Test.YtgiinjleehgkoaaGreatHd
namespace Go.Proofs.YtgiinjleehgkoaaGreat
open Go.RowKit Go.PlainAid

theorem RtIn.isSm {w : World} {v : Value} {R : Int × List Int} (h : RtIn w v R) : R.2.length ≤ 1048576 := by
  obtain ⟨_, _, _, l, _, _, h3, rfl⟩ := h
  exact h3
theorem four_rows (w : World) (xs ys zs us : List Value) (t1 t2 t3 t4 : TypeId) : ∃ W4, W4 = (((w.alloc (.cells xs.toArray t1)).alloc (.cells ys.toArray t2)).alloc (.cells zs.toArray t3)).alloc (.cells us.toArray t4) ∧ W4.heap.size = w.heap.size + 1 + 1 + 1 + 1 ∧ Fresh w W4 ∧ RowAt W4 w.heap.size t1 xs ∧ RowAt W4 (w.heap.size + 1) t2 ys ∧ RowAt W4 (w.heap.size + 1 + 1) t3 zs ∧ RowAt W4 (w.heap.size + 1 + 1 + 1) t4 us := by
  obtain ⟨W3, h3, hz, hf, a, b, c⟩ := three_rows w xs ys zs t1 t2 t3
  refine ⟨_, rfl, by simp, ?_, ?_, ?_, ?_, ?_⟩ <;> rw [← h3]
  · exact fnew hf _
  · exact a.alloc _
  · exact b.alloc _
  · exact c.alloc _
  · have := RowAt.new W3 t4 us
    rwa [hz] at this
set_option maxHeartbeats 1000000 in
theorem planIf_any (v : Value) (Q : PlanV) (base : Nat) (w : World) (h : PlOwn w base v Q) (hs : PlSmall Q) : Calls Tryz.prog 43 #[v] w fun e w' => ∃ v', e = .returned (.tuple #[v', .bool (okF Q).2]) ∧ PlOwn w' base v' (okF Q).1 ∧ Fresh w w' := by
  have HO := Lib.hid h
  have HI := Lib.hid (h.plIn hs)
  obtain ⟨q, m, c, p, k, d, r, i0, e0, rfl⟩ := h.shape
  obtain ⟨W2, hW2, hsz2, hf2, r1, r2⟩ := two_rows w [.slice q m c, .slice p k d, .slice r i0 e0] [.slice none 0 0, .slice none 0 0, .slice none 0 0] 41 41
  have HC := Lib.hid (implIsValidPlan_any _ Q W2 (HI.out.keep hf2))
  have HF2 := Lib.hid hf2
  have HR1 := Lib.hid r1
  have HR2 := Lib.hid r2
  have HW2 := Lib.hid hW2
  clear h hs hf2 r1 r2 hW2 HI
  go_enter Tryz.func43, Tryz.ntmps43
  go_wp2_with fail
  rw [← HW2.out]
  refine (HC.out).mono ?_
  rintro e w1 ⟨rfl, hb⟩
  have hz := HR2.out.keep hb
  have y0 := (HR1.out.keep hb).cell (i := 0) rfl
  have y1 := (HR1.out.keep hb).cell (i := 1) rfl
  have y2 := (HR1.out.keep hb).cell (i := 2) rfl
  have x0 := hz.cell (i := 0) rfl
  have x1 := hz.cell (i := 1) rfl
  have x2 := hz.cell (i := 2) rfl
  have u0 := hz.frozen 0
  have u1 := hz.frozen 1
  have u2 := hz.frozen 2
  have HZ := Lib.hid hz
  have HFF := Lib.hid (fstep HF2.out hb)
  clear hb HC
  cases hpl : planB Q
  · have hfin := ((hz.set 0 (.slice none 0 0)).set 1 (.slice none 0 0)).set 2 (.slice none 0 0)
    have k0 := hfin.cell (i := 0) rfl
    have k1 := hfin.cell (i := 1) rfl
    have k2 := hfin.cell (i := 2) rfl
    have HE := Lib.hid (okF_no hpl)
    clear hz hfin hpl
    go_wp2
    refine bodyPost_ret (v := .tuple #[.agg #[.slice none 0 0, .slice none 0 0, .slice none 0 0], .bool false]) (by simp [results, Tryz.results43, go_sem, k0, k1, k2]) rfl ?_
    rw [HE.out]
    exact ⟨_, rfl, zeroP_own _ _, fset (fset (fset HFF.out (by omega) _) (by omega) _) (by omega) _⟩
  · have hfin := ((hz.set 0 (.slice q m c)).set 1 (.slice p k d)).set 2 (.slice r i0 e0)
    have k0 := hfin.cell (i := 0) rfl
    have k1 := hfin.cell (i := 1) rfl
    have k2 := hfin.cell (i := 2) rfl
    have HE := Lib.hid (okF_yes hpl)
    clear hz hfin hpl
    go_wp2
    refine bodyPost_ret (v := .tuple #[.agg #[.slice q m c, .slice p k d, .slice r i0 e0], .bool true]) (by simp [results, Tryz.results43, go_sem, k0, k1, k2]) rfl ?_
    rw [HE.out]
    exact ⟨_, rfl, (HO.out.keep HFF.out).box HZ.out, fset (fset (fset HFF.out (by omega) _) (by omega) _) (by omega) _⟩
theorem set_row {l : List LL} {sp : List Value} {i : Nat} (x : LL) (hi : i < l.length) : spl (l.flatMap llC ++ sp) (i * 5) (llC x) = (l.set i x).flatMap llC ++ sp := by
  have hl5 : (l.flatMap llC).length = l.length * 5 := flat_len llC 5 (fun _ => rfl) l
  have ht5 : ((l.take i).flatMap llC).length = i * 5 := by rw [flat_len llC 5 (fun _ => rfl)]; simp; omega
  have hx5 : (llC x).length = 5 := rfl
  have e1 : l.flatMap llC = (l.take i).flatMap llC ++ (llC l[i] ++ (l.drop (i + 1)).flatMap llC) := by
    have h : l = l.take i ++ l[i] :: l.drop (i + 1) := by rw [List.getElem_cons_drop, List.take_append_drop]
    have h2 : l.flatMap llC = (l.take i ++ l[i] :: l.drop (i + 1)).flatMap llC := congrArg (fun z => z.flatMap llC) h
    rw [h2, List.flatMap_append, List.flatMap_cons]
  have e2 : (l.set i x).flatMap llC = (l.take i).flatMap llC ++ (llC x ++ (l.drop (i + 1)).flatMap llC) := by
    rw [List.set_eq_take_append_cons_drop, if_pos hi, List.flatMap_append, List.flatMap_cons]
  have hy5 : (llC l[i]).length = 5 := rfl
  have hd5 : ((l.drop (i + 1)).flatMap llC).length = (l.length - (i + 1)) * 5 := by rw [flat_len llC 5 (fun _ => rfl)]; simp
  apply List.ext_getElem?
  intro t
  have r1 := get3 (C := (l.drop (i + 1)).flatMap llC ++ sp) ht5 hx5 t
  have r2 := get3 (C := (l.drop (i + 1)).flatMap llC ++ sp) ht5 hy5 t
  rw [e2]
  simp only [List.append_assoc] at r1 r2 ⊢
  rw [r1]
  rcases Nat.lt_or_ge t (i * 5) with h | h
  · rw [spl_out _ _ _ _ (Or.inl h), if_pos h, e1]
    simp only [List.append_assoc]
    rw [r2, if_pos h]
  · rcases Nat.lt_or_ge t (i * 5 + 5) with h2 | h2
    · have := spl_in (llC x) (i * 5) (l.flatMap llC ++ sp) (t - i * 5) (by omega) (by rw [List.length_append]; omega)
      rw [show i * 5 + (t - i * 5) = t by omega] at this
      rw [this, if_neg (by omega), if_pos h2]
    · rw [spl_out _ _ _ _ (Or.inr (by omega)), if_neg (by omega), if_neg (by omega), e1]
      simp only [List.append_assoc]
      rw [r2, if_neg (by omega), if_neg (by omega)]
theorem DistL.set {l : List LL} (h : DistL l) (i : Nat) {x : LL} (hx : ∀ y ∈ l, ∀ g o h' o', x.r.q = some ⟨g, o, none⟩ → y.r.q = some ⟨h', o', none⟩ → g ≠ h') : DistL (l.set i x) := by
  intro a b y z hab hy hz g o h' o' e1 e2
  rw [List.getElem?_set] at hy hz
  split at hy
  · next ha =>
    split at hy
    · cases hy
      split at hz
      · next hb => omega
      · exact hx z (List.mem_of_getElem? hz) g o h' o' e1 e2
    · cases hy
  · split at hz
    · split at hz
      · cases hz
        exact (hx y (List.mem_of_getElem? hy) h' o' g o e2 e1).symm
      · cases hz
    · exact h a b y z hab hy hz g o h' o' e1 e2
theorem map_setL {α β : Type} (f : α → β) (l : List α) (i : Nat) (x : α) : (l.set i x).map f = (l.map f).set i (f x) := by rw [List.map_set]
theorem mem_setL {α : Type} {l : List α} {i : Nat} {x y : α} (h : y ∈ l.set i x) : y ∈ l ∨ y = x := List.mem_or_eq_of_mem_set h
theorem Own.blk2 {w : World} {base : Nat} {t : TypeId} {q : Option Addr} {xs : List Value} (h : Own w base t q xs) : ∀ g o, q = some ⟨g, o, none⟩ → base ≤ g ∧ g < w.heap.size := by
  intro g o e
  rcases h with ⟨h0, _⟩ | ⟨b, sp, h1, h2, h3⟩
  · rw [h0] at e; cases e
  · rw [h1] at e; cases e; exact ⟨h2, h3.lt⟩
theorem kq5 {w1 w2 : World} {a b d : Nat} {v v0 v1 v2 v3 : Value} (h : w1.cell? ⟨a, 2, none⟩ = some v ∧ w1.cell? ⟨b, 0, none⟩ = some v0 ∧ w1.cell? ⟨b, 1, none⟩ = some v1 ∧ w1.cell? ⟨d, 0, none⟩ = some v2 ∧ w1.cell? ⟨d, 1, none⟩ = some v3) (hb : Fresh w1 w2) :
    w2.cell? ⟨a, 2, none⟩ = some v ∧ w2.cell? ⟨b, 0, none⟩ = some v0 ∧ w2.cell? ⟨b, 1, none⟩ = some v1 ∧ w2.cell? ⟨d, 0, none⟩ = some v2 ∧ w2.cell? ⟨d, 1, none⟩ = some v3 :=
  ⟨fkeep hb h.1, fkeep hb h.2.1, fkeep hb h.2.2.1, fkeep hb h.2.2.2.1, fkeep hb h.2.2.2.2⟩
set_option maxHeartbeats 4000000 in
set_option maxRecDepth 100000 in
theorem implMoveLight_any (v vr : Value) (P : PlanV) (id : Int) (R : Int × List Int) (b : Int × Int) (w : World) (h : PlIn w v P) (hR : RtIn w vr R) : Calls Tryz.prog 12 #[v, .int .i64 id, vr, .agg #[.int .i64 b.1, .int .i64 b.2]] w fun e w' => ∃ v', e = .returned (.tuple #[v', .bool (mvF P id R b).2]) ∧ PlOwn w' w.heap.size v' (mvF P id R b).1 ∧ Fresh w w' := by
  obtain ⟨bf, bc⟩ := b
  obtain ⟨rs, rq, rcap, rl, rfl, hRI, hRn, rfl⟩ := hR
  have HP := Lib.hid h
  have hsm := h.isSmall
  have HSM := Lib.hid hsm
  obtain ⟨q, m, c, p, k, d, r, i0, e0, rfl⟩ := h.shape
  obtain ⟨W2, hW2, hsz2, hf2, r1, r2, r3, r4⟩ := four_rows w [.slice q m c, .slice p k d, .slice r i0 e0] [.int .i64 rs, .slice rq rl.length rcap] [.int .i64 bf, .int .i64 bc] [.slice none 0 0, .slice none 0 0, .slice none 0 0] 41 45 47 41
  have HC := Lib.hid (implLightNumber_any _ P id W2 (HP.out.keep hf2))
  have HF2 := Lib.hid hf2
  have HR1 := Lib.hid r1
  have HR2 := Lib.hid r2
  have HR3 := Lib.hid r3
  have HR4 := Lib.hid r4
  have HRI := Lib.hid (hRI.keep hf2)
  have HW2 := Lib.hid hW2
  have hsz := hf2.size
  obtain ⟨RM, hRM⟩ : ∃ R, R = mvF P id (rs, rl) (bf, bc) := ⟨_, rfl⟩
  simp only at hRn ⊢
  rw [← hRM]
  have HRM := Lib.hid hRM
  clear h hsm hf2 r1 r2 r3 r4 hW2 hRM hRI
  by_cases hok : planB P = true ∧ 0 ≤ findL P.lights id
  · have hln : lnumF P id = (findL P.lights id, true) := by unfold lnumF; rw [if_pos hok]
    obtain ⟨i, hi⟩ : ∃ i : Nat, findL P.lights id = (i : Int) := ⟨(findL P.lights id).toNat, by have := hok.2; omega⟩
    have hil : i < P.lights.length := by have := findL_lt hok.2; rw [hi] at this; simpa using this
    have HE : Hid (RM = okF ⟨P.net, P.lights.set i (id, (rs, rl), (bf, bc))⟩) := by show _ = _; rw [HRM.out, mvF_yes hok, hi]; simp
    have HQS : Hid (PlSmall ⟨P.net, P.lights.set i (id, (rs, rl), (bf, bc))⟩) := ⟨HSM.out.1, set_small HSM.out.2 hRn⟩
    rw [hln, hi] at HC
    clear hln hi hok
    go_enter Tryz.func12, Tryz.ntmps12
    go_wp2_with fail
    rw [← HW2.out]
    refine (HC.out).mono ?_
    rintro e w1 ⟨rfl, hb⟩
    have y0 := (HR1.out.keep hb).cell (i := 0) rfl
    have y1 := (HR1.out.keep hb).cell (i := 1) rfl
    have y2 := (HR1.out.keep hb).cell (i := 2) rfl
    have HB := Lib.hid hb
    have hszb := hb.size
    have HCO := Lib.hid (copyPlan_any _ P w1 (HP.out.keep (fstep HF2.out hb)))
    clear hb HC
    go_wp2_with fail
    refine (HCO.out).mono ?_
    rintro e w2 ⟨v1, rfl, ho, hb⟩
    obtain ⟨q', c', p', d', r', e', l', rfl, o1, o2, o3, o4, o5, o6, o7, o8, o9, o10⟩ := ho
    have hil' : i < l'.length := by rw [o6] at hil; simpa using hil
    obtain ⟨nn, hnn⟩ : ∃ k, k = P.net.nodes.length := ⟨_, rfl⟩
    obtain ⟨nf, hnf⟩ : ∃ k, k = P.net.fibers.length := ⟨_, rfl⟩
    rw [← hnn] at o7 ⊢
    rw [← hnf]
    have HNN := Lib.hid hnn
    have HNF := Lib.hid hnf
    obtain ⟨g, sp, rfl, hg, hr⟩ : ∃ g sp, r' = some ⟨g, 0, none⟩ ∧ w1.heap.size ≤ g ∧ RowAt w2 g 69 (l'.flatMap llC ++ sp) := by
      rcases o3 with ⟨_, h0⟩ | h0
      · exfalso
        have := congrArg List.length h0
        rw [flat_len llC 5 (fun _ => rfl)] at this
        simp at this; omega
      · exact h0
    have hsz1 : w.heap.size ≤ w1.heap.size := by omega
    obtain ⟨W5, hW5⟩ : ∃ W, W = w2.alloc (.cells #[.slice q' nn c', .slice p' nf d', .slice (some ⟨g, 0, none⟩) l'.length e'] 41) := ⟨_, rfl⟩
    have hf5 : Fresh w2 W5 := by rw [hW5]; exact fnew (frefl _) _
    have hr5 : RowAt W5 w2.heap.size 41 [.slice q' nn c', .slice p' nf d', .slice (some ⟨g, 0, none⟩) l'.length e'] := by rw [hW5]; exact RowAt.new _ _ _
    have HRP := Lib.hid hr5
    have HRG := Lib.hid (hr.keep hf5)
    have hb5 : Fresh W2 W5 := fstep HB.out (fstep hb hf5)
    have hrr := HR2.out.keep hb5
    have hrb := HR3.out.keep hb5
    have HRR := Lib.hid hrr
    have HRB := Lib.hid hrb
    have HRZ := Lib.hid (HR4.out.keep hb5)
    have HRI5 := Lib.hid (HRI.out.keep hb5)
    have hF5 := fstep HF2.out hb5
    have HF5 := Lib.hid hF5
    have HO1 := Lib.hid ((o1.mono hsz1).keep hf5)
    have HO2 := Lib.hid ((o2.mono hsz1).keep hf5)
    have HO4 : Hid (∀ x ∈ l', Own W5 w.heap.size 3 x.r.q (x.r.fibs.map iv)) := fun x hx => ((o4 x hx).mono hsz1).keep hf5
    have HD := Lib.hid o5
    have HV := Lib.hid o6
    have HO7 := Lib.hid o7
    have hgl : g < w2.heap.size := hr.lt
    have hgw : w.heap.size ≤ g := by omega
    have hwz := hb.size
    have hz2 := HR4.out.lt
    have hsz5 : W5.heap.size = w2.heap.size + 1 := by rw [hW5]; simp
    have HSZ5 := Lib.hid hsz5
    have HSS : W5.cell? ⟨w2.heap.size, 2, none⟩ = some (.slice (some ⟨g, 0, none⟩) l'.length e') ∧ W5.cell? ⟨w.heap.size + 1, 0, none⟩ = some (.int .i64 rs) ∧ W5.cell? ⟨w.heap.size + 1, 1, none⟩ = some (.slice rq rl.length rcap) ∧ W5.cell? ⟨w.heap.size + 1 + 1, 0, none⟩ = some (.int .i64 bf) ∧ W5.cell? ⟨w.heap.size + 1 + 1, 1, none⟩ = some (.int .i64 bc) := ⟨hr5.cell (i := 2) rfl, hrr.cell (i := 0) rfl, hrr.cell (i := 1) rfl, hrb.cell (i := 0) rfl, hrb.cell (i := 1) rfl⟩
    have HW5 := Lib.hid hW5
    have hilz : (i : Int) < (l'.length : Int) := by omega
    have HDAT : Hid (∀ j, j < 5 → ∃ u, (l'.flatMap llC ++ sp)[i * 5 + j]? = some u) := by
      intro j hj
      refine ⟨_, List.getElem?_eq_getElem ?_⟩
      rw [List.length_append, flat_len llC 5 (fun _ => rfl)]; omega
    have n1 : g ≠ w2.heap.size := by omega
    have n2 : w.heap.size + 1 ≠ g := by omega
    have n3 : w.heap.size + 1 + 1 ≠ g := by omega
    have n4 : w.heap.size + 1 + 1 + 1 ≠ g := by omega
    have n5 : w2.heap.size ≠ g := by omega
    clear hb hf5 hr hr5 hb5 hrr hrb hF5 o1 o2 o3 o4 o5 o6 o7 hsz5 hW5 HCO y0 y1 y2 hnn hnf
    go_wp2_with fail
    rw [← HW5.out]
    refine hd_start (n := 8) (S := fun w' => w'.cell? ⟨w2.heap.size, 2, none⟩ = some (.slice (some ⟨g, 0, none⟩) l'.length e') ∧ w'.cell? ⟨w.heap.size + 1, 0, none⟩ = some (.int .i64 rs) ∧ w'.cell? ⟨w.heap.size + 1, 1, none⟩ = some (.slice rq rl.length rcap) ∧ w'.cell? ⟨w.heap.size + 1 + 1, 0, none⟩ = some (.int .i64 bf) ∧ w'.cell? ⟨w.heap.size + 1 + 1, 1, none⟩ = some (.int .i64 bc)) (by kernel_rfl) (by kernel_rfl) (kq5 HSS (fdrew (frefl _))) (fun hHeld => ?_)
    refine hd_take (i := 0) (v := ?_) rfl (by kernel_rfl) (by kernel_rfl) (by kernel_rfl) (by kernel_rfl) (fun _ _ _ h => h) (by assumption) (Or.inl ⟨by rfl, ?_⟩) ?_
    rotate_left
    · (intro w hSw; (try dsimp only at hSw); go_simp; first | done | with_reducible rfl)
    try simp only [Act.put, List.getElem_toArray, List.getElem_cons_succ, List.getElem_cons_zero, List.setIfInBounds_toArray, List.set_cons_zero, List.set_cons_succ]
    refine hd_take (i := 1) (v := ?_) rfl (by kernel_rfl) (by kernel_rfl) (by kernel_rfl) (by kernel_rfl) (fun _ _ _ h => h) (by assumption) (Or.inl ⟨by rfl, ?_⟩) ?_
    rotate_left
    · (intro w hSw; (try dsimp only at hSw); go_simp; first | done | with_reducible rfl)
    try simp only [Act.put, List.getElem_toArray, List.getElem_cons_succ, List.getElem_cons_zero, List.setIfInBounds_toArray, List.set_cons_zero, List.set_cons_succ]
    refine hd_take (i := 2) (v := ?_) rfl (by kernel_rfl) (by kernel_rfl) (by kernel_rfl) (by kernel_rfl) (fun _ _ _ h => h) (by assumption) (Or.inl ⟨by rfl, ?_⟩) ?_
    rotate_left
    · (intro w hSw; (try dsimp only at hSw); go_simp; first | done | with_reducible rfl)
    try simp only [Act.put, List.getElem_toArray, List.getElem_cons_succ, List.getElem_cons_zero, List.setIfInBounds_toArray, List.set_cons_zero, List.set_cons_succ]
    refine hd_take (i := 3) (v := ?_) rfl (by kernel_rfl) (by kernel_rfl) (by kernel_rfl) (by kernel_rfl) (fun _ _ _ h => h) (by assumption) (Or.inl ⟨by rfl, ?_⟩) ?_
    rotate_left
    · (intro w hSw; (try dsimp only at hSw); go_simp; first | done | with_reducible rfl)
    try simp only [Act.put, List.getElem_toArray, List.getElem_cons_succ, List.getElem_cons_zero, List.setIfInBounds_toArray, List.set_cons_zero, List.set_cons_succ]
    refine hd_take (i := 4) (v := ?_) rfl (by kernel_rfl) (by kernel_rfl) (by kernel_rfl) (by kernel_rfl) (fun _ _ _ h => h) (by assumption) (Or.inl ⟨by rfl, ?_⟩) ?_
    rotate_left
    · (intro w hSw; (try dsimp only at hSw); go_simp; first | done | with_reducible rfl)
    try simp only [Act.put, List.getElem_toArray, List.getElem_cons_succ, List.getElem_cons_zero, List.setIfInBounds_toArray, List.set_cons_zero, List.set_cons_succ]
    refine hd_take (i := 6) (v := ?_) rfl (by kernel_rfl) (by kernel_rfl) (by kernel_rfl) (by kernel_rfl) (fun _ _ _ h => h) (by assumption) (Or.inl ⟨by rfl, ?_⟩) ?_
    rotate_left
    · (intro w hSw; (try dsimp only at hSw); go_simp; first | done | with_reducible rfl)
    try simp only [Act.put, List.getElem_toArray, List.getElem_cons_succ, List.getElem_cons_zero, List.setIfInBounds_toArray, List.set_cons_zero, List.set_cons_succ]
    refine hd_one (i := 5) rfl (by kernel_rfl) (by kernel_rfl) (fun K hK => ?_)
    (go_simp; go_at_call 42; refine (copyRoute_any rs rq rcap rl _ (HRI5.out.keep (fdrew (frefl _))) hRn).mono ?_; rintro e w3 ⟨qx, cx, rfl, hox, hbw⟩; have hf3 : Fresh W5 w3 := fstep (fdrew (frefl _)) hbw; go_wp2_with fail)
    refine hK.out _ _ ?_ (fun hHeld => ?_)
    · exact kq5 HSS hf3
    clear hK K
    try simp only [Act.put, List.getElem_toArray, List.getElem_cons_succ, List.getElem_cons_zero, List.setIfInBounds_toArray, List.set_cons_zero, List.set_cons_succ]
    refine hd_one (i := 7) rfl (by kernel_rfl) (by kernel_rfl) (fun K hK => ?_)
    go_simp
    refine hK.out _ _ ?_ (fun hHeld => ?_)
    · exact kq5 HSS hf3
    clear hK K
    try simp only [Act.put, List.getElem_toArray, List.getElem_cons_succ, List.getElem_cons_zero, List.setIfInBounds_toArray, List.set_cons_zero, List.set_cons_succ]
    refine hd_done (by kernel_rfl) ?_
    clear hHeld
    simp only [List.drop_succ_cons, List.drop_zero]
    have hg3 := HRG.out.keep hf3
    obtain ⟨u0, hu0⟩ := HDAT.out 0 (by omega)
    obtain ⟨u1, hu1⟩ := HDAT.out 1 (by omega)
    obtain ⟨u2, hu2⟩ := HDAT.out 2 (by omega)
    obtain ⟨u3, hu3⟩ := HDAT.out 3 (by omega)
    obtain ⟨u4, hu4⟩ := HDAT.out 4 (by omega)
    rw [Nat.add_zero] at hu0
    have z0 := hg3.cell hu0
    have z1 := hg3.cell hu1
    have z2 := hg3.cell hu2
    have z3 := hg3.cell hu3
    have z4 := hg3.cell hu4
    have t0 := hg3.frozen (i * 5)
    have t1 := hg3.frozen (i * 5 + 1)
    have t2 := hg3.frozen (i * 5 + 2)
    have t3 := hg3.frozen (i * 5 + 3)
    have t4 := hg3.frozen (i * 5 + 4)
    clear hu0 hu1 hu2 hu3 hu4
    obtain ⟨W6, hW6⟩ : ∃ W, W = ((((w3.setCell ⟨g, i * 5, none⟩ (.int .i64 id)).setCell ⟨g, i * 5 + 1, none⟩ (.int .i64 rs)).setCell ⟨g, i * 5 + 2, none⟩ (.slice qx rl.length cx)).setCell ⟨g, i * 5 + 3, none⟩ (.int .i64 bf)).setCell ⟨g, i * 5 + 4, none⟩ (.int .i64 bc) := ⟨_, rfl⟩
    have hp6 : RowAt W6 w2.heap.size 41 [.slice q' nn c', .slice p' nf d', .slice (some ⟨g, 0, none⟩) l'.length e'] := by rw [hW6]; exact (((((HRP.out.keep hf3).setOther n5 _).setOther n5 _).setOther n5 _).setOther n5 _).setOther n5 _
    have hz6 : RowAt W6 (w.heap.size + 1 + 1 + 1) 41 [.slice none 0 0, .slice none 0 0, .slice none 0 0] := by rw [hW6]; exact (((((HRZ.out.keep hf3).setOther n4 _).setOther n4 _).setOther n4 _).setOther n4 _).setOther n4 _
    have hF6 : Fresh w W6 := by rw [hW6]; exact fset (fset (fset (fset (fset (fstep HF5.out hf3) hgw _) hgw _) hgw _) hgw _) hgw _
    have hg6 : RowAt W6 g 69 ((l'.set i ⟨id, ⟨rs, qx, cx, rl⟩, bf, bc⟩).flatMap llC ++ sp) := by
      rw [hW6, ← set_row ⟨id, ⟨rs, qx, cx, rl⟩, bf, bc⟩ hil']
      exact ((((hg3.set (i * 5) _).set (i * 5 + 1) _).set (i * 5 + 2) _).set (i * 5 + 3) _).set (i * 5 + 4) _
    have hS : ∀ {t : TypeId} {pp : Option Addr} {cs : List Value}, Own w3 w.heap.size t pp cs → t ≠ 69 → Own W6 w.heap.size t pp cs := by
      intro t pp cs h n
      rw [hW6]
      exact ((((h.setO hg3 n _ _).setO (hg3.set _ _) n _ _).setO ((hg3.set _ _).set _ _) n _ _).setO (((hg3.set _ _).set _ _).set _ _) n _ _).setO ((((hg3.set _ _).set _ _).set _ _).set _ _) n _ _
    have hsz5' := HSZ5.out
    have hox6 : Own W6 w.heap.size 3 qx (rl.map iv) := hS (hox.mono (by have := HF5.out.size; simpa using this)) (by decide)
    have hxb : ∀ gg o, qx = some ⟨gg, o, none⟩ → W5.heap.size ≤ gg := by
      intro gg o e
      have h1 := (hox.blk gg o e).1
      simpa using h1
    have hpo : PlOwn W6 w.heap.size (.agg #[.slice q' nn c', .slice p' nf d', .slice (some ⟨g, 0, none⟩) l'.length e']) ⟨P.net, P.lights.set i (id, (rs, rl), (bf, bc))⟩ := by
      refine ⟨q', c', p', d', some ⟨g, 0, none⟩, e', l'.set i ⟨id, ⟨rs, qx, cx, rl⟩, bf, bc⟩, by rw [HNN.out, HNF.out, List.length_set], hS (HO1.out.keep hf3) (by decide), hS (HO2.out.keep hf3) (by decide), Or.inr ⟨g, sp, rfl, hgw, hg6⟩, fun y hy => ?_, ?_, ?_, by simp only; rw [← HNN.out]; exact HO7.out, o8, by rw [List.length_set]; exact o9, o10⟩
      · rcases mem_setL hy with hy | rfl
        · exact hS ((HO4.out y hy).keep hf3) (by decide)
        · exact hox6
      · refine HD.out.set i fun y hy gg o h' o' e1 e2 => ?_
        have h1 := hxb gg o e1
        have h2 := ((HO4.out y hy).blk h' o' e2).2
        omega
      · simp only
        rw [HV.out, map_setL]
    have HPI := Lib.hid (planIf_any _ _ w.heap.size W6 hpo HQS.out)
    have hpw := HRP.out.keep hf3
    have m0 := hpw.cell (i := 0) rfl
    have m1 := hpw.cell (i := 1) rfl
    have m2 := hpw.cell (i := 2) rfl
    have HZ6 := Lib.hid hz6
    have HF6 := Lib.hid hF6
    have HW6 := Lib.hid hW6
    clear hpw hW6 hp6 hz6 hF6 hg6 hS hox6 hxb hpo hg3 hox hf3 hbw HSS
    go_wp2_with fail
    rw [← HW6.out]
    refine (HPI.out).mono ?_
    rintro e w7 ⟨v7, rfl, ho, hb⟩
    obtain ⟨a0, a1, a2, b0, b1, b2, c0, c1, c2, rfl⟩ := ho.shape
    have hz := HZ6.out.keep hb
    have x0 := hz.cell (i := 0) rfl
    have x1 := hz.cell (i := 1) rfl
    have x2 := hz.cell (i := 2) rfl
    have y0 := hz.frozen 0
    have y1 := hz.frozen 1
    have y2 := hz.frozen 2
    have hfin := ((hz.set 0 (.slice a0 a1 a2)).set 1 (.slice b0 b1 b2)).set 2 (.slice c0 c1 c2)
    have k0 := hfin.cell (i := 0) rfl
    have k1 := hfin.cell (i := 1) rfl
    have k2 := hfin.cell (i := 2) rfl
    have HO := Lib.hid ho
    have HZ := Lib.hid hz
    have HFF := Lib.hid (fstep HF6.out hb)
    clear ho hz hb hfin HPI m0 m1 m2
    go_wp2
    refine bodyPost_ret (v := .tuple #[.agg #[.slice a0 a1 a2, .slice b0 b1 b2, .slice c0 c1 c2], .bool (okF ⟨P.net, P.lights.set i (id, (rs, rl), (bf, bc))⟩).2]) (by simp [results, Tryz.results12, go_sem, k0, k1, k2]) rfl ?_
    rw [HE.out]
    exact ⟨_, rfl, HO.out.box HZ.out, fset (fset (fset HFF.out (by omega) _) (by omega) _) (by omega) _⟩
  · have hln : lnumF P id = (0, false) := by unfold lnumF; rw [if_neg hok]
    have HE : Hid (RM = (zeroP, false)) := by show _ = _; rw [HRM.out, mvF_no hok]
    rw [hln] at HC
    clear hln hok
    go_enter Tryz.func12, Tryz.ntmps12
    go_wp2_with fail
    rw [← HW2.out]
    refine (HC.out).mono ?_
    rintro e w1 ⟨rfl, hb⟩
    have hz := HR4.out.keep hb
    have x0 := hz.cell (i := 0) rfl
    have x1 := hz.cell (i := 1) rfl
    have x2 := hz.cell (i := 2) rfl
    have u0 := hz.frozen 0
    have u1 := hz.frozen 1
    have u2 := hz.frozen 2
    have hfin := ((hz.set 0 (.slice none 0 0)).set 1 (.slice none 0 0)).set 2 (.slice none 0 0)
    have k0 := hfin.cell (i := 0) rfl
    have k1 := hfin.cell (i := 1) rfl
    have k2 := hfin.cell (i := 2) rfl
    have HFF := Lib.hid (fstep HF2.out hb)
    clear hz hb hfin HC
    go_wp2
    refine bodyPost_ret (v := .tuple #[.agg #[.slice none 0 0, .slice none 0 0, .slice none 0 0], .bool false]) (by simp [results, Tryz.results12, go_sem, k0, k1, k2]) rfl ?_
    rw [HE.out]
    exact ⟨_, rfl, zeroP_own _ _, fset (fset (fset HFF.out (by omega) _) (by omega) _) (by omega) _⟩
end Go.Proofs.YtgiinjleehgkoaaGreat
