/- Contracts: the costs of demands; CostBound, the reference's side. -/
import Derived.Test.YtlcppdbpajdnlaaGreatCs
import Derived.Deep.DeepCutAuto
namespace Go.Proofs.YtlcppdbpajdnlaaGreat
open Go.RowKit Go.PlainAid

theorem kq_2a4 {w1 w2 : World} {a b b1 b2 b3 b4 : Nat} {u0 u1 v0 v1 v2 v3 : Value} (h : w1.cell? ⟨a, 0, none⟩ = some u0 ∧ w1.cell? ⟨a, 1, none⟩ = some u1 ∧ w1.cell? ⟨b, b1, none⟩ = some v0 ∧ w1.cell? ⟨b, b2, none⟩ = some v1 ∧ w1.cell? ⟨b, b3, none⟩ = some v2 ∧ w1.cell? ⟨b, b4, none⟩ = some v3) (hb : Fresh w1 w2) :
    w2.cell? ⟨a, 0, none⟩ = some u0 ∧ w2.cell? ⟨a, 1, none⟩ = some u1 ∧ w2.cell? ⟨b, b1, none⟩ = some v0 ∧ w2.cell? ⟨b, b2, none⟩ = some v1 ∧ w2.cell? ⟨b, b3, none⟩ = some v2 ∧ w2.cell? ⟨b, b4, none⟩ = some v3 :=
  ⟨fkeep hb h.1, fkeep hb h.2.1, fkeep hb h.2.2.1, fkeep hb h.2.2.2.1, fkeep hb h.2.2.2.2.1, fkeep hb h.2.2.2.2.2⟩
set_option maxHeartbeats 4000000 in
set_option maxRecDepth 20000 in
theorem l10Costs_any (v : Value) (n : Net) (pf : Option Addr) (cf : Nat) (fm : List (Int × Int)) (p : Option Addr) (c : Nat) (l : List Fib) (w : World) (h : NetIn w v n) (hfm : Prs w pf fm) (hfl : fm.length ≤ 1048576) (hl : Fibs w p l) (hln : l.length ≤ 1048576) :
    Calls Tryz.prog 54 #[v, .slice pf fm.length cf, .slice p l.length c] w (OutCo n fm l w) := by
  have HN := Lib.hid h
  have HP := Lib.hid hfm
  have HL := Lib.hid hl
  obtain ⟨qn, cn, pn, cp, rfl, _, _, n1, _, _, _, _⟩ := h
  obtain ⟨W2, hW2⟩ : ∃ W, W = (w.alloc (.cells #[.slice qn n.nodes.length cn, .slice pn n.fibers.length cp] 37)).alloc (.cells #[] 3) := ⟨_, rfl⟩
  have hf2 : Fresh w W2 := by rw [hW2]; exact fnew (fnew (frefl _) _) _
  have hr2 : RowAt W2 w.heap.size 37 [.slice qn n.nodes.length cn, .slice pn n.fibers.length cp] := by rw [hW2]; exact (RowAt.new _ _ _).alloc _
  have hr0 : RowAt W2 (w.heap.size + 1) 3 [] := by
    rw [hW2]
    have := RowAt.new (w.alloc (.cells #[.slice qn n.nodes.length cn, .slice pn n.fibers.length cp] 37)) 3 []
    simpa using this
  obtain ⟨B, hB⟩ : ∃ B : World, B = w.alloc (.cells #[.slice qn n.nodes.length cn, .slice pn n.fibers.length cp] 37) := ⟨_, rfl⟩
  have hBs : B.heap.size = w.heap.size + 1 := by rw [hB]; simp
  have hfB : Fresh B W2 := by rw [hB, hW2]; exact fnew (frefl _) _
  have hfB0 : Fresh w B := by rw [hB]; exact fnew (frefl _) _
  have hrB : RowAt B w.heap.size 37 [.slice qn n.nodes.length cn, .slice pn n.fibers.length cp] := by rw [hB]; exact RowAt.new _ _ _
  have HF2 := Lib.hid hf2
  have HR2 := Lib.hid hr2
  have HW2 := Lib.hid hW2
  have HFB := Lib.hid hfB
  have HFB0 := Lib.hid hfB0
  have HRB := Lib.hid hrB
  have HO2 : Hid (W2.ownsRow B.heap.size 3 1 (.slice (some ⟨w.heap.size + 1, 0, none⟩) 0 0) 0 []) := ownsRow_zero hr0 (by omega)
  have H1 : Hid (∀ W, Fresh W2 W → Calls Tryz.prog 40 #[.slice pf fm.length cf] W fun e w' => e = .returned (.bool (fmtsB fm)) ∧ Fresh W w') := fun W hW => l10Formats_any pf cf fm W (HP.out.keep (fstep hf2 hW)) hfl
  have H2 := Lib.hid (l10Demands_any (.agg #[.slice qn n.nodes.length cn, .slice pn n.fibers.length cp]) n p c l W2 (HN.out.keep hf2) (HL.out.keep hf2) hln)
  have H3 : Hid (∀ W d, Fresh B W → Calls Tryz.prog 24 #[.agg #[.slice qn n.nodes.length cn, .slice pn n.fibers.length cp], .slice pf fm.length cf, fibV d] W (OutCr n fm d W)) := fun W d hW => specCheapestRoute_any _ n pf cf fm d W (HN.out.keep (fstep hfB0 hW)) (HP.out.keep (fstep hfB0 hW)) hfl
  have hszB := hfB0.size
  have HEND : Hid (∀ W o (I : List Int), W.ownsRow B.heap.size 3 1 o I.length (I.map iv) → Fresh B W → costB n fm l = false → OutCo n fm l w (.returned (.tuple #[o, .bool false])) W) := fun W o I ho hW hno => by
    obtain ⟨q, k, rfl, ho9⟩ := own_of_row ho
    exact ⟨I, q, k, by rw [hno], ho9.mono hszB, (fun h => by rw [hno] at h; exact Bool.noConfusion h), fstep HFB0.out hW⟩
  clear hfm hl hf2 hr2 hr0 hW2 hB hfB hfB0 hrB
  go_enter Tryz.func54, Tryz.ntmps54
  go_wp2_with fail
  rw [← HW2.out]
  refine (H2.out).mono ?_
  rintro e w3 ⟨rfl, hf⟩
  have HF3 := Lib.hid hf
  have HO3 := Lib.hid (ownsRow_keep HO2.out hf)
  clear hf H2
  cases hdv : demsB n l
  · have HNO := Lib.hid (costB_dm (fm := fm) hdv)
    clear hdv
    go_wp2
    go_ret2
    exact HEND.out _ _ [] HO3.out (fstep HFB.out HF3.out) HNO.out
  have HDV := Lib.hid hdv
  have hl12 := demsB_len hdv
  clear hdv
  go_wp2_with fail
  refine (H1.out _ HF3.out).mono ?_
  rintro e w4 ⟨rfl, hf⟩
  have HF4 := Lib.hid (fstep HFB.out (fstep HF3.out hf))
  have HO4 := Lib.hid (ownsRow_keep HO3.out hf)
  clear hf H1
  cases hfv : fmtsB fm
  · have HNO := Lib.hid (costB_fm (n := n) (l := l) hfv)
    clear hfv
    go_wp2
    go_ret2
    exact HEND.out _ _ [] HO4.out HF4.out HNO.out
  have HFV := Lib.hid hfv
  clear hfv
  go_wp2
  go_loopw [8, 9] (fun o i wr => ∃ j : Nat, j ≤ l.length ∧ i = .int .i64 j ∧ wr.ownsRow B.heap.size 3 1 o ((l.take j).map (costF n fm)).length (((l.take j).map (costF n fm)).map iv) ∧ Hid (∀ d ∈ l.take j, (chF n fm d).2.2 = true) ∧ Fresh B wr) (fun _ i _ => l.length - (intOf i).toNat)
  case atStart => exact ⟨0, Nat.zero_le _, rfl, HO4.out, (by show ∀ d ∈ _, _; intro d hd; simp at hd), HF4.out⟩
  case round =>
    obtain ⟨j, hj, rfl, hown, HALL, hf⟩ := hrel
    by_cases hlt : j < l.length
    · have hltz : (j : Int) < (l.length : Int) := by omega
      obtain ⟨b, off, x0, x1, x2, x3, hpp, hx, c0, c1, c2, c3⟩ := (HL.out.keep (fstep HFB0.out hf)).at hlt
      subst hpp
      have HX := Lib.hid hx
      have HTK : Hid (l.take (j + 1) = l.take j ++ [⟨x0, x1, x2, x3⟩]) := by show _ = _; rw [List.take_add_one, hx]; rfl
      have HFR := Lib.hid hf
      have HO := Lib.hid hown
      have a0 := (HRB.out.keep hf).cell (i := 0) rfl
      have a1 := (HRB.out.keep hf).cell (i := 1) rfl
      obtain ⟨I, hI⟩ : ∃ I, I = (l.take j).map (costF n fm) := ⟨_, rfl⟩
      have hil : I.length ≤ 12 := by rw [hI]; simp; omega
      rw [← hI] at HO
      have HII := Lib.hid hI
      have HC : Hid (∀ W, Fresh B W → Calls Tryz.prog 24 #[.agg #[.slice qn n.nodes.length cn, .slice pn n.fibers.length cp], .slice pf fm.length cf, .agg #[.int .i64 x0, .int .i64 x1, .int .i64 x2, .int .i64 x3]] W (OutCr n fm ⟨x0, x1, x2, x3⟩ W)) := fun W hW => H3.out W ⟨x0, x1, x2, x3⟩ hW
      have HCF := Lib.hid (costF_fit n fm ⟨x0, x1, x2, x3⟩)
      have HCD : Hid (costF n fm ⟨x0, x1, x2, x3⟩ = (chF n fm ⟨x0, x1, x2, x3⟩).2.1 * ((chF n fm ⟨x0, x1, x2, x3⟩).1.2.length : Int)) := rfl
      have hsm : (chF n fm ⟨x0, x1, x2, x3⟩).1.2.length ≤ 1048576 := chF_small n fm ⟨x0, x1, x2, x3⟩
      unfold OutCr RtOwn at HC
      obtain ⟨⟨⟨rs, rl⟩, kk, ok⟩, hch⟩ : ∃ z, z = chF n fm ⟨x0, x1, x2, x3⟩ := ⟨_, rfl⟩
      rw [← hch] at HC HCD hsm
      have HCH := Lib.hid hch
      simp only at HC HCD hsm
      have HSS : wr.cell? ⟨w.heap.size, 0, none⟩ = some (.slice qn n.nodes.length cn) ∧ wr.cell? ⟨w.heap.size, 1, none⟩ = some (.slice pn n.fibers.length cp) ∧ wr.cell? ⟨b, off + j * 4, none⟩ = some (.int .i64 x0) ∧ wr.cell? ⟨b, off + j * 4 + 1, none⟩ = some (.int .i64 x1) ∧ wr.cell? ⟨b, off + j * 4 + 2, none⟩ = some (.int .i64 x2) ∧ wr.cell? ⟨b, off + j * 4 + 3, none⟩ = some (.int .i64 x3) := ⟨a0, a1, c0, c1, c2, c3⟩
      clear hx hf hown hI hch c0 c1 c2 c3 a0 a1
      go_upto_region 7 with fail
      refine hd_start (n := 14) (S := fun w' => w'.cell? ⟨w.heap.size, 0, none⟩ = some (.slice qn n.nodes.length cn) ∧ w'.cell? ⟨w.heap.size, 1, none⟩ = some (.slice pn n.fibers.length cp) ∧ w'.cell? ⟨b, off + j * 4, none⟩ = some (.int .i64 x0) ∧ w'.cell? ⟨b, off + j * 4 + 1, none⟩ = some (.int .i64 x1) ∧ w'.cell? ⟨b, off + j * 4 + 2, none⟩ = some (.int .i64 x2) ∧ w'.cell? ⟨b, off + j * 4 + 3, none⟩ = some (.int .i64 x3)) (by kernel_rfl) (by kernel_rfl) (kq_2a4 HSS (fdrew (frefl _))) (fun hHeld => ?_)
      obtain ⟨Wz, hWz⟩ : ∃ W, W = wr.drew := ⟨_, rfl⟩
      rw [← hWz] at hHeld ⊢
      have f0 : Fresh wr Wz := by rw [hWz]; exact fdrew (frefl _)
      clear hWz
      refine hd_take (i := 0) (v := ?_) rfl (by kernel_rfl) (by kernel_rfl) (by kernel_rfl) (by kernel_rfl) (fun _ _ _ h => h) (by assumption) (Or.inl ⟨by rfl, ?_⟩) ?_
      rotate_left
      · (intro w hSw; (try dsimp only at hSw); go_simp; first | done | with_reducible rfl)
      try simp only [Act.put, List.getElem_toArray, List.getElem_cons_zero, List.setIfInBounds_toArray, List.set_cons_zero, List.set_cons_succ]
      refine hd_take (i := 1) (v := ?_) rfl (by kernel_rfl) (by kernel_rfl) (by kernel_rfl) (by kernel_rfl) (fun _ _ _ h => h) (by assumption) (Or.inl ⟨by rfl, ?_⟩) ?_
      rotate_left
      · (intro w hSw; (try dsimp only at hSw); go_simp; first | done | with_reducible rfl)
      try simp only [Act.put, List.getElem_toArray, List.getElem_cons_succ, List.getElem_cons_zero, List.setIfInBounds_toArray, List.set_cons_zero, List.set_cons_succ]
      refine hd_take (i := 2) (v := ?_) rfl (by kernel_rfl) (by kernel_rfl) (by kernel_rfl) (by kernel_rfl) (fun _ _ _ h => h) (by assumption) (Or.inl ⟨by rfl, ?_⟩) ?_
      rotate_left
      · (intro w hSw; (try dsimp only at hSw); go_simp; first | done | with_reducible rfl)
      try simp only [Act.put, List.getElem_toArray, List.getElem_cons_succ, List.getElem_cons_zero, List.setIfInBounds_toArray, List.set_cons_zero, List.set_cons_succ]
      refine hd_take (i := 3) (v := ?_) rfl (by kernel_rfl) (by kernel_rfl) (by kernel_rfl) (by kernel_rfl) (fun _ _ _ h => h) (by assumption) (Or.inl ⟨by rfl, ?_⟩) ?_
      rotate_left
      · (intro w hSw; (try dsimp only at hSw); go_simp; first | done | with_reducible rfl)
      try simp only [Act.put, List.getElem_toArray, List.getElem_cons_succ, List.getElem_cons_zero, List.setIfInBounds_toArray, List.set_cons_zero, List.set_cons_succ]
      refine hd_take (i := 4) (v := ?_) rfl (by kernel_rfl) (by kernel_rfl) (by kernel_rfl) (by kernel_rfl) (fun _ _ _ h => h) (by assumption) (Or.inl ⟨by rfl, ?_⟩) ?_
      rotate_left
      · (intro w hSw; (try dsimp only at hSw); go_simp; first | done | with_reducible rfl)
      try simp only [Act.put, List.getElem_toArray, List.getElem_cons_succ, List.getElem_cons_zero, List.setIfInBounds_toArray, List.set_cons_zero, List.set_cons_succ]
      refine hd_take (i := 5) (v := ?_) rfl (by kernel_rfl) (by kernel_rfl) (by kernel_rfl) (by kernel_rfl) (fun _ _ _ h => h) (by assumption) (Or.inl ⟨by rfl, ?_⟩) ?_
      rotate_left
      · (intro w hSw; (try dsimp only at hSw); go_simp; first | done | with_reducible rfl)
      try simp only [Act.put, List.getElem_toArray, List.getElem_cons_succ, List.getElem_cons_zero, List.setIfInBounds_toArray, List.set_cons_zero, List.set_cons_succ]
      refine hd_ready (rs := [6, 11]) (by kernel_rfl) (by simp) ?_
      refine hd_cons (i := 6) rfl (by kernel_rfl) (fun K hK => ?_) ?_
      focus
        go_simp
        go_at_call 24
        refine (HC.out _ (fstep HFR.out f0)).mono ?_
        rintro e wk ⟨v', rfl, ⟨q, k, rfl, _⟩, hb⟩
        have f1 := fstep f0 hb
        go_wp2_with fail
        refine hK.out _ _ ?_ (fun hHeld => ?_)
        · exact kq_2a4 HSS f1
        clear hK K
        try simp only [Act.put, List.getElem_toArray, List.getElem_cons_succ, List.getElem_cons_zero, List.setIfInBounds_toArray, List.set_cons_zero, List.set_cons_succ]
        refine hd_take (i := 7) (v := ?_) rfl (by kernel_rfl) (by kernel_rfl) (by kernel_rfl) (by kernel_rfl) (fun _ _ _ h => h) (by assumption) (Or.inl ⟨by rfl, ?_⟩) ?_
        rotate_left
        · (intro w hSw; (try dsimp only at hSw); go_simp; first | done | with_reducible rfl)
        try simp only [Act.put, List.getElem_toArray, List.getElem_cons_succ, List.getElem_cons_zero, List.setIfInBounds_toArray, List.set_cons_zero, List.set_cons_succ]
        refine hd_take (i := 8) (v := ?_) rfl (by kernel_rfl) (by kernel_rfl) (by kernel_rfl) (by kernel_rfl) (fun _ _ _ h => h) (by assumption) (Or.inl ⟨by rfl, ?_⟩) ?_
        rotate_left
        · (intro w hSw; (try dsimp only at hSw); go_simp; first | done | with_reducible rfl)
        try simp only [Act.put, List.getElem_toArray, List.getElem_cons_succ, List.getElem_cons_zero, List.setIfInBounds_toArray, List.set_cons_zero, List.set_cons_succ]
        refine hd_take (i := 9) (v := ?_) rfl (by kernel_rfl) (by kernel_rfl) (by kernel_rfl) (by kernel_rfl) (fun _ _ _ h => h) (by assumption) (Or.inl ⟨by rfl, ?_⟩) ?_
        rotate_left
        · (intro w hSw; (try dsimp only at hSw); go_simp; first | done | with_reducible rfl)
        try simp only [Act.put, List.getElem_toArray, List.getElem_cons_succ, List.getElem_cons_zero, List.setIfInBounds_toArray, List.set_cons_zero, List.set_cons_succ]
        refine hd_take (i := 10) (v := ?_) rfl (by kernel_rfl) (by kernel_rfl) (by kernel_rfl) (by kernel_rfl) (fun _ _ _ h => h) (by assumption) (Or.inl ⟨by rfl, ?_⟩) ?_
        rotate_left
        · (intro w hSw; (try dsimp only at hSw); go_simp; first | done | with_reducible rfl)
        try simp only [Act.put, List.getElem_toArray, List.getElem_cons_succ, List.getElem_cons_zero, List.setIfInBounds_toArray, List.set_cons_zero, List.set_cons_succ]
        refine hd_one (i := 11) rfl (by kernel_rfl) (by kernel_rfl) (fun K hK => ?_)
        go_simp
        obtain ⟨wl, hwa⟩ : ∃ W, W = wk.alloc (.cells #[.int .i64 0, .slice none 0 0] 53) := ⟨_, rfl⟩
        rw [← hwa]
        have hba : Fresh wk wl := by rw [hwa]; exact fnew (frefl _) _
        obtain ⟨gb, hgb⟩ : ∃ g, g = wk.heap.size := ⟨_, rfl⟩
        have ra : RowAt wl gb 53 [.int .i64 0, .slice none 0 0] := by rw [hwa, hgb]; exact RowAt.new _ _ _
        have hga : wr.heap.size ≤ gb := by rw [hgb]; exact f1.size
        have f2 := fstep f1 hba
        rw [← hgb]
        clear hwa hgb hba f1 hb
        refine hK.out _ _ ?_ (fun hHeld => ?_)
        · exact kq_2a4 HSS f2
        clear hK K
        try simp only [Act.put, List.getElem_toArray, List.getElem_cons_succ, List.getElem_cons_zero, List.setIfInBounds_toArray, List.set_cons_zero, List.set_cons_succ]
      rotate_left
      focus
        refine hd_cons (i := 11) rfl (by kernel_rfl) (fun K hK => ?_) hd_nil
        go_simp
        obtain ⟨wk, hwa⟩ : ∃ W, W = Wz.alloc (.cells #[.int .i64 0, .slice none 0 0] 53) := ⟨_, rfl⟩
        rw [← hwa]
        have hba : Fresh Wz wk := by rw [hwa]; exact fnew (frefl _) _
        obtain ⟨gb, hgb⟩ : ∃ g, g = Wz.heap.size := ⟨_, rfl⟩
        have ra0 : RowAt wk gb 53 [.int .i64 0, .slice none 0 0] := by rw [hwa, hgb]; exact RowAt.new _ _ _
        have hga : wr.heap.size ≤ gb := by rw [hgb]; exact f0.size
        have f1 := fstep f0 hba
        rw [← hgb]
        clear hwa hgb hba
        refine hK.out _ _ ?_ (fun hHeld => ?_)
        · exact kq_2a4 HSS f1
        clear hK K
        try simp only [Act.put, List.getElem_toArray, List.getElem_cons_succ, List.getElem_cons_zero, List.setIfInBounds_toArray, List.set_cons_zero, List.set_cons_succ]
        refine hd_one (i := 6) rfl (by kernel_rfl) (by kernel_rfl) (fun K hK => ?_)
        go_simp
        go_at_call 24
        refine (HC.out _ (fstep HFR.out f1)).mono ?_
        rintro e wl ⟨v', rfl, ⟨q, k, rfl, _⟩, hb⟩
        have f2 := fstep f1 hb
        have ra := ra0.keep hb
        go_wp2_with fail
        refine hK.out _ _ ?_ (fun hHeld => ?_)
        · exact kq_2a4 HSS f2
        clear hK K ra0 f1 hb
        try simp only [Act.put, List.getElem_toArray, List.getElem_cons_succ, List.getElem_cons_zero, List.setIfInBounds_toArray, List.set_cons_zero, List.set_cons_succ]
        refine hd_take (i := 7) (v := ?_) rfl (by kernel_rfl) (by kernel_rfl) (by kernel_rfl) (by kernel_rfl) (fun _ _ _ h => h) (by assumption) (Or.inl ⟨by rfl, ?_⟩) ?_
        rotate_left
        · (intro w hSw; (try dsimp only at hSw); go_simp; first | done | with_reducible rfl)
        try simp only [Act.put, List.getElem_toArray, List.getElem_cons_succ, List.getElem_cons_zero, List.setIfInBounds_toArray, List.set_cons_zero, List.set_cons_succ]
        refine hd_take (i := 8) (v := ?_) rfl (by kernel_rfl) (by kernel_rfl) (by kernel_rfl) (by kernel_rfl) (fun _ _ _ h => h) (by assumption) (Or.inl ⟨by rfl, ?_⟩) ?_
        rotate_left
        · (intro w hSw; (try dsimp only at hSw); go_simp; first | done | with_reducible rfl)
        try simp only [Act.put, List.getElem_toArray, List.getElem_cons_succ, List.getElem_cons_zero, List.setIfInBounds_toArray, List.set_cons_zero, List.set_cons_succ]
        refine hd_take (i := 9) (v := ?_) rfl (by kernel_rfl) (by kernel_rfl) (by kernel_rfl) (by kernel_rfl) (fun _ _ _ h => h) (by assumption) (Or.inl ⟨by rfl, ?_⟩) ?_
        rotate_left
        · (intro w hSw; (try dsimp only at hSw); go_simp; first | done | with_reducible rfl)
        try simp only [Act.put, List.getElem_toArray, List.getElem_cons_succ, List.getElem_cons_zero, List.setIfInBounds_toArray, List.set_cons_zero, List.set_cons_succ]
        refine hd_take (i := 10) (v := ?_) rfl (by kernel_rfl) (by kernel_rfl) (by kernel_rfl) (by kernel_rfl) (fun _ _ _ h => h) (by assumption) (Or.inl ⟨by rfl, ?_⟩) ?_
        rotate_left
        · (intro w hSw; (try dsimp only at hSw); go_simp; first | done | with_reducible rfl)
        try simp only [Act.put, List.getElem_toArray, List.getElem_cons_succ, List.getElem_cons_zero, List.setIfInBounds_toArray, List.set_cons_zero, List.set_cons_succ]
      all_goals (
        have z0 := ra.cell (i := 0) rfl
        have z1 := ra.cell (i := 1) rfl
        have u0 := ra.frozen 0
        have u1 := ra.frozen 1
        have fs := (fset (fset f2 hga (o := 0) (.int .i64 rs)) hga (o := 1) (.slice q rl.length k))
        refine hd_one (i := 12) rfl (by kernel_rfl) (by kernel_rfl) (fun K hK => ?_)
        (go_simp)
        refine hK.out _ _ ?_ (fun hHeld => ?_)
        · exact kq_2a4 HSS fs
        clear hK K
        try simp only [Act.put, List.getElem_toArray, List.getElem_cons_succ, List.getElem_cons_zero, List.setIfInBounds_toArray, List.set_cons_zero, List.set_cons_succ]
        refine hd_take (i := 13) (v := ?_) rfl (by kernel_rfl) (by kernel_rfl) (by kernel_rfl) (by kernel_rfl) (fun _ _ _ h => h) (by assumption) (Or.inl ⟨by rfl, ?_⟩) ?_
        rotate_left
        · (intro w hSw; (try dsimp only at hSw); go_simp; first | done | with_reducible rfl)
        try simp only [Act.put, List.getElem_toArray, List.getElem_cons_succ, List.getElem_cons_zero, List.setIfInBounds_toArray, List.set_cons_zero, List.set_cons_succ]
        refine hd_done (by kernel_rfl) ?_
        clear hHeld
        simp only [List.drop_succ_cons, List.drop_zero]
        obtain ⟨W7, hW7⟩ : ∃ W, W = (wl.setCell ⟨gb, 0, none⟩ (.int .i64 rs)).setCell ⟨gb, 1, none⟩ (.slice q rl.length k) := ⟨_, rfl⟩
        rw [← hW7] at fs ⊢
        have hr7 : RowAt W7 gb 53 [.int .i64 rs, .slice q rl.length k] := by rw [hW7]; exact (ra.set 0 (.int .i64 rs)).set 1 (.slice q rl.length k)
        have t1 := hr7.cell (i := 1) rfl
        have HF7 := Lib.hid (fstep HFR.out fs)
        have HO7 := Lib.hid (ownsRow_keep HO.out fs)
        clear z0 z1 u0 u1 ra hW7 fs f2 f0 hr7 hga HSS HC HO
        cases ok
        · have HNO : Hid (costB n fm l = false) := costB_ch HX.out (by rw [← HCH.out])
          go_wp2
          go_ret2
          exact HEND.out _ _ I HO7.out HF7.out HNO.out
        · obtain ⟨cc, hcc⟩ : ∃ z, z = kk * (rl.length : Int) := ⟨_, rfl⟩
          have hcf := HCF.out
          rw [HCD.out, ← hcc] at hcf
          have w1 : IntKind.i64.wrap (kk * (rl.length : Int)) = cc := by rw [← hcc, IntKind.wrap_i64] <;> omega
          have hown8 := HO7.out
          rw [← hcc] at HCD
          clear hcc hcf
          go_wp2_with (at_builtin; refine wpList_app_ints B W7 _ I cc rfl _ _ rfl rfl hown8 rfl (by omega) HF7.out ?_; intro v' w9 hown9 hf9)
          have HO9 := Lib.hid hown9
          have HFX := Lib.hid hf9
          clear hown8 hown9 hf9 t1
          go_wp2
          go_roundw
          case rel =>
            refine ⟨j + 1, hlt, by go_num, ?_, ?_, HFX.out⟩
            · rw [HTK.out, List.map_append, ← HII.out]
              show World.ownsRow _ _ _ _ _ (I ++ [costF n fm ⟨x0, x1, x2, x3⟩]).length ((I ++ [costF n fm ⟨x0, x1, x2, x3⟩]).map iv)
              rw [HCD.out]
              exact HO9.out
            · show ∀ d ∈ _, _
              intro d hd
              rw [HTK.out] at hd
              rcases List.mem_append.1 hd with hd | hd
              · exact HALL.out d hd
              · rw [List.mem_singleton.1 hd, ← HCH.out]
          case measure => simp [intOf]; omega)
    · have hltz : ¬ (j : Int) < (l.length : Int) := by omega
      have hje : j = l.length := by omega
      have HYES : Hid (costB n fm l = true) := costB_end HFV.out HDV.out (by have := HALL.out; rwa [hje, List.take_length] at this)
      rw [hje, List.take_length] at hown
      have HO := Lib.hid hown
      have HF := Lib.hid hf
      clear hown hf hje
      go_wp2
      go_ret2
      obtain ⟨q, k, rfl, ho⟩ := own_of_row HO.out
      exact ⟨_, q, k, by rw [HYES.out]; rfl, ho.mono hszB, fun _ => (costL_yes HYES.out).symm, fstep HFB0.out HF.out⟩
set_option maxHeartbeats 2000000 in
set_option maxRecDepth 20000 in
theorem specCostBound_any (v : Value) (n : Net) (v1 : Value) (fm : List (Int × Int)) (v2 : Value) (l : List Fib) (w : World) (h : NetIn w v n) (h1 : FmIn w v1 fm) (h2 : DmIn w v2 l) :
    Calls Tryz.prog 30 #[v, v1, v2] w fun e w' => e = .returned (.tuple #[.int .i64 (sumTo (costL n fm l) (costL n fm l).length), .bool (costB n fm l)]) ∧ Fresh w w' := by
  obtain ⟨pf, cf, rfl, hfm, hfl⟩ := h1
  obtain ⟨p, c, rfl, hl, hln⟩ := h2
  have HN := Lib.hid h
  have HP := Lib.hid hfm
  have HL := Lib.hid hl
  obtain ⟨qn, cn, pn, cp, rfl, _, _, n1, _, _, _, _⟩ := h
  obtain ⟨W2, hW2⟩ : ∃ W, W = w.alloc (.cells #[.slice qn n.nodes.length cn, .slice pn n.fibers.length cp] 37) := ⟨_, rfl⟩
  have hf2 : Fresh w W2 := by rw [hW2]; exact fnew (frefl _) _
  have HF2 := Lib.hid hf2
  have HW2 := Lib.hid hW2
  have HC := Lib.hid (l10Costs_any (.agg #[.slice qn n.nodes.length cn, .slice pn n.fibers.length cp]) n pf cf fm p c l W2 (HN.out.keep hf2) (HP.out.keep hf2) hfl (HL.out.keep hf2) hln)
  unfold OutCo at HC
  have HFIT := Lib.hid (costL_fit n fm l)
  have h12 := costL_len n fm l
  have HNO : Hid (costB n fm l = false → costL n fm l = []) := costL_no
  obtain ⟨M, hM⟩ : ∃ L, L = costL n fm l := ⟨_, rfl⟩
  obtain ⟨ok, hok⟩ : ∃ b, b = costB n fm l := ⟨_, rfl⟩
  rw [← hM, ← hok] at HC HNO
  rw [← hM] at HFIT h12
  rw [← hM, ← hok]
  clear hfm hl hf2 hW2 hM hok
  go_enter Tryz.func30, Tryz.ntmps30
  go_wp2_with fail
  rw [← HW2.out]
  refine (HC.out).mono ?_
  rintro e w3 ⟨L, q, k, rfl, ho, hLM, hf⟩
  have HF3 := Lib.hid (fstep HF2.out hf)
  have HI3 := Lib.hid ho.ints
  have HLM := Lib.hid hLM
  clear ho hf hLM HC
  cases ok
  · have HM := Lib.hid (HNO.out rfl)
    go_wp2
    go_ret2
    exact ⟨by rw [HM.out]; rfl, HF3.out⟩
  · obtain rfl : L = M := HLM.out rfl
    go_wp2
    go_loopw [10, 11] (fun s i wr => ∃ k : Nat, k ≤ L.length ∧ s = .int .i64 (sumTo L k) ∧ i = .int .i64 k ∧ Fresh w3 wr) (fun _ i _ => L.length - (intOf i).toNat)
    case atStart => exact ⟨0, Nat.zero_le _, rfl, rfl, frefl _⟩
    case round =>
      obtain ⟨k, hk, rfl, rfl, hf⟩ := hrel
      have HF := Lib.hid hf
      by_cases hlt : k < L.length
      · obtain ⟨b, off, x, rfl, hx, hc0⟩ := (HI3.out.keep hf).at hlt
        have hltz : (k : Int) < (L.length : Int) := by omega
        have hb1 := sumTo_bd HFIT.out (k + 1)
        have HE := Lib.hid (sumTo_step hx)
        rw [HE.out] at hb1
        have w1 : IntKind.i64.wrap (sumTo L k + x) = sumTo L k + x := by rw [IntKind.wrap_i64] <;> omega
        clear hf hx hb1
        go_wp2
        go_roundw
        case rel => exact ⟨k + 1, by omega, by rw [HE.out], by go_num, HF.out⟩
        case measure => simp [intOf]; omega
      · have hkn : k = L.length := by omega
        have hltz : ¬ (k : Int) < (L.length : Int) := by omega
        have HKN := Lib.hid hkn
        clear hf hkn
        go_wp2
        go_ret2
        exact ⟨by rw [HKN.out]; rfl, fstep HF3.out HF.out⟩
end Go.Proofs.YtlcppdbpajdnlaaGreat
