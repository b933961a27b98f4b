/- Contracts: UsableRoutes, both sides. -/
import Derived.Test.YtlcppdbpajdnlaaGreatUs2
namespace Go.Proofs.YtlcppdbpajdnlaaGreat
open Go.RowKit Go.PlainAid

/-- The cells of a choice of a row. -/
theorem chs_at {w : World} {base : Nat} {p : Option Addr} {c : Nat} {l : List CH} (h : Chs w base (.slice p l.length c) l) {j : Nat} (hj : j < l.length) :
    ∃ g x, p = some ⟨g, 0, none⟩ ∧ l[j]? = some x ∧ x ∈ l ∧ w.cell? ⟨g, j * 3, none⟩ = some (iv x.r.start) ∧ w.cell? ⟨g, j * 3 + 1, none⟩ = some (.slice x.r.q x.r.fibs.length x.r.cap) ∧ w.cell? ⟨g, j * 3 + 2, none⟩ = some (iv x.k) := by
  obtain ⟨p', c', hpe, hown, _, _⟩ := owns_cap h.row
  cases hpe
  rcases hown with ⟨_, h0⟩ | ⟨g, sp, rfl, hg, hrow⟩
  · exfalso
    have := congrArg List.length h0
    rw [flat_len chC 3 (fun _ => rfl)] at this
    simp at this; omega
  obtain ⟨x, hx⟩ : ∃ x, l[j]? = some x := ⟨l[j], List.getElem?_eq_getElem hj⟩
  have hl := flat_len chC 3 (fun _ => rfl) l
  exact ⟨g, x, rfl, hx, List.mem_of_getElem? hx, hrow.cell (by rw [List.getElem?_append_left (by omega)]; exact flat_get chC 3 (fun _ => rfl) l j 0 (by omega) x hx),
    hrow.cell (by rw [List.getElem?_append_left (by omega)]; exact flat_get chC 3 (fun _ => rfl) l j 1 (by omega) x hx), hrow.cell (by rw [List.getElem?_append_left (by omega)]; exact flat_get chC 3 (fun _ => rfl) l j 2 (by omega) x hx)⟩
theorem kq3 {w1 w2 : World} {b : Nat} {v0 v1 v2 : Value} (h : w1.cell? ⟨b, 0, none⟩ = some v0 ∧ w1.cell? ⟨b, 1, none⟩ = some v1 ∧ w1.cell? ⟨b, 2, none⟩ = some v2) (hb : Fresh w1 w2) : w2.cell? ⟨b, 0, none⟩ = some v0 ∧ w2.cell? ⟨b, 1, none⟩ = some v1 ∧ w2.cell? ⟨b, 2, none⟩ = some v2 := ⟨fkeep hb h.1, fkeep hb h.2.1, fkeep hb h.2.2⟩
theorem outU_no {n : Net} {fm : List (Int × Int)} {d : Fib} {w w' : World} (h : usOk n fm d = false) (hf : Fresh w w') : OutU n fm d w (.returned (.tuple #[.slice none 0 0, .slice none 0 0, .bool false])) w' :=
  ⟨_, none, 0, [], by rw [h]; rfl, ⟨Rts.none _ _, ⟨rfl, Or.inl ⟨rfl, rfl⟩⟩⟩, by rw [usF_no h]; rfl, hf⟩
theorem usOk_no {n : Net} {fm : List (Int × Int)} {d : Fib} (h : usB n fm d = false) : usOk n fm d = false := by unfold usOk; rw [h]; rfl
theorem ch_len {n : Net} {fm : List (Int × Int)} {d : Fib} {l : List CH} (h : l.map CH.val = (usF n fm d).1) : l.length ≤ 200 := by
  have h1 := usF_len n fm d
  rw [← h] at h1
  simpa using h1
set_option maxHeartbeats 4000000 in
set_option maxRecDepth 20000 in
theorem specUsableRoutes_any (v : Value) (n : Net) (pf : Option Addr) (cf : Nat) (fm : List (Int × Int)) (d : Fib) (w : World) (h : NetIn w v n) (hfm : Prs w pf fm) (hfl : fm.length ≤ 1048576) :
    Calls Tryz.prog 9 #[v, .slice pf fm.length cf, fibV d] w (OutU n fm d w) := by
  have HN := Lib.hid h
  have HP := Lib.hid hfm
  obtain ⟨qn, cn, pn, cp, rfl, _, _, n1, _, _, _, _⟩ := h
  obtain ⟨W2, hW2, hsz2, hf2, r1, r2⟩ := two_rows w [.slice qn n.nodes.length cn, .slice pn n.fibers.length cp] [.int .i64 d.a, .int .i64 d.b, .int .i64 d.len, .int .i64 d.risk] 37 41
  have HF2 := Lib.hid hf2
  have HR1 := Lib.hid r1
  have HR2 := Lib.hid r2
  have HW2 := Lib.hid hW2
  have H1 := Lib.hid (l2Good_any _ n W2 (HN.out.keep hf2))
  have H2 : Hid (∀ W, Fresh W2 W → Calls Tryz.prog 40 #[.slice pf fm.length cf] W fun e w' => e = .returned (.bool (fmtsB fm)) ∧ Fresh W w') := fun W hW => l10Formats_any pf cf fm W (HP.out.keep (fstep hf2 hW)) hfl
  have H3 : Hid (∀ W, Fresh W2 W → Calls Tryz.prog 41 #[.agg #[.slice qn n.nodes.length cn, .slice pn n.fibers.length cp], .agg #[.int .i64 d.a, .int .i64 d.b, .int .i64 d.len, .int .i64 d.risk]] W fun e w' => e = .returned (.bool (demB n.nodes.length d)) ∧ Fresh W w') := fun W hW => l10Demand_any _ n d W (HN.out.keep (fstep hf2 hW))
  have H4 : Hid (∀ W, Fresh W2 W → usB n fm d = true → Calls Tryz.prog 42 #[.agg #[.slice qn n.nodes.length cn, .slice pn n.fibers.length cp], .slice pf fm.length cf, .agg #[.int .i64 d.a, .int .i64 d.b, .int .i64 d.len, .int .i64 d.risk]] W (OutU n fm d W)) := fun W hW hu => l10Usable_any _ n pf cf fm d W (HN.out.keep (fstep hf2 hW)) (HP.out.keep (fstep hf2 hW)) hfl hu
  clear hfm hf2 r1 r2 hW2
  have hend : ∀ (W : World) (a b : Nat), Fresh w W → usB n fm d = false → w.heap.size ≤ a → w.heap.size ≤ b → RowAt W a 53 [] → RowAt W b 3 [] → OutU n fm d w (.returned (.tuple #[.slice (some ⟨a, 0, none⟩) 0 0, .slice (some ⟨b, 0, none⟩) 0 0, .bool false])) W := fun W a b hW hu ha hb hra hrb =>
    ⟨_, some ⟨b, 0, none⟩, 0, [], by rw [usOk_no hu]; rfl, ⟨Rts.nil _ _ (ownsRow_zero hra ha), ownsRow_zero hrb hb⟩, by rw [usF_no (usOk_no hu)]; rfl, hW⟩
  have HEND := Lib.hid hend
  clear hend
  go_enter Tryz.func9, Tryz.ntmps9
  go_wp2_with fail
  rw [← HW2.out]
  refine (H1.out).mono ?_
  rintro e w3 ⟨rfl, hf⟩
  have HF3 := Lib.hid hf
  have a0 := (HR1.out.keep hf).cell (i := 0) rfl
  have a1 := (HR1.out.keep hf).cell (i := 1) rfl
  have d0 := (HR2.out.keep hf).cell (i := 0) rfl
  have d1 := (HR2.out.keep hf).cell (i := 1) rfl
  have d2 := (HR2.out.keep hf).cell (i := 2) rfl
  have d3 := (HR2.out.keep hf).cell (i := 3) rfl
  have hsz3 := hf.size
  clear hf H1
  cases hnet : netB n
  · have HB : Hid (usB n fm d = false) := by show _ = _; unfold usB; rw [hnet]; rfl
    obtain ⟨W4, hW4⟩ : ∃ W, W = (w3.alloc (.cells #[] 53)).alloc (.cells #[] 3) := ⟨_, rfl⟩
    have hf4 : Fresh w3 W4 := by rw [hW4]; exact fnew (fnew (frefl _) _) _
    have HRA : Hid (RowAt W4 w3.heap.size 53 []) := by show RowAt _ _ _ _; rw [hW4]; exact (RowAt.new w3 _ []).alloc _
    have HRB : Hid (RowAt W4 (w3.heap.size + 1) 3 []) := by
      show RowAt _ _ _ _
      rw [hW4]
      have := RowAt.new (w3.alloc (.cells #[] 53)) 3 []
      simpa using this
    have HF4 := Lib.hid (fstep HF2.out (fstep HF3.out hf4))
    have HW4 := Lib.hid hW4
    have hsz := HF2.out.size
    clear hf4 hW4 hnet
    go_wp2
    go_ret3
    (try rw [← HW4.out])
    exact HEND.out W4 _ _ HF4.out HB.out (by omega) (by omega) HRA.out HRB.out
  have HNET := Lib.hid hnet
  clear hnet
  go_wp2_with fail
  refine (H2.out _ HF3.out).mono ?_
  rintro e w4 ⟨rfl, hf⟩
  have HF4 := Lib.hid (fstep HF3.out hf)
  have hsz4 := hf.size
  replace a0 := fkeep hf a0
  replace a1 := fkeep hf a1
  replace d0 := fkeep hf d0
  replace d1 := fkeep hf d1
  replace d2 := fkeep hf d2
  replace d3 := fkeep hf d3
  clear hf H2
  cases hfm : fmtsB fm
  · have HB : Hid (usB n fm d = false) := by show _ = _; unfold usB; rw [hfm]; simp
    obtain ⟨W4, hW4⟩ : ∃ W, W = (w4.alloc (.cells #[] 53)).alloc (.cells #[] 3) := ⟨_, rfl⟩
    have hf4 : Fresh w4 W4 := by rw [hW4]; exact fnew (fnew (frefl _) _) _
    have HRA : Hid (RowAt W4 w4.heap.size 53 []) := by show RowAt _ _ _ _; rw [hW4]; exact (RowAt.new w4 _ []).alloc _
    have HRB : Hid (RowAt W4 (w4.heap.size + 1) 3 []) := by
      show RowAt _ _ _ _
      rw [hW4]
      have := RowAt.new (w4.alloc (.cells #[] 53)) 3 []
      simpa using this
    have HFW := Lib.hid (fstep HF2.out (fstep HF4.out hf4))
    have HW4 := Lib.hid hW4
    have hsz := HF2.out.size
    clear hf4 hW4 hfm
    go_wp2
    go_ret3
    (try rw [← HW4.out])
    exact HEND.out W4 _ _ HFW.out HB.out (by omega) (by omega) HRA.out HRB.out
  have HFM := Lib.hid hfm
  clear hfm
  go_wp2_with fail
  refine (H3.out _ HF4.out).mono ?_
  rintro e w5 ⟨rfl, hf⟩
  have HF5 := Lib.hid (fstep HF4.out hf)
  have hsz5 := hf.size
  replace a0 := fkeep hf a0
  replace a1 := fkeep hf a1
  replace d0 := fkeep hf d0
  replace d1 := fkeep hf d1
  replace d2 := fkeep hf d2
  replace d3 := fkeep hf d3
  clear hf H3
  cases hdb : demB n.nodes.length d
  · have HB : Hid (usB n fm d = false) := by show _ = _; unfold usB; rw [hdb]; simp
    obtain ⟨W4, hW4⟩ : ∃ W, W = (w5.alloc (.cells #[] 53)).alloc (.cells #[] 3) := ⟨_, rfl⟩
    have hf4 : Fresh w5 W4 := by rw [hW4]; exact fnew (fnew (frefl _) _) _
    have HRA : Hid (RowAt W4 w5.heap.size 53 []) := by show RowAt _ _ _ _; rw [hW4]; exact (RowAt.new w5 _ []).alloc _
    have HRB : Hid (RowAt W4 (w5.heap.size + 1) 3 []) := by
      show RowAt _ _ _ _
      rw [hW4]
      have := RowAt.new (w5.alloc (.cells #[] 53)) 3 []
      simpa using this
    have HFW := Lib.hid (fstep HF2.out (fstep HF5.out hf4))
    have HW4 := Lib.hid hW4
    have hsz := HF2.out.size
    clear hf4 hW4 hdb
    go_wp2
    go_ret3
    (try rw [← HW4.out])
    exact HEND.out W4 _ _ HFW.out HB.out (by omega) (by omega) HRA.out HRB.out
  have hub : usB n fm d = true := by unfold usB; rw [HNET.out, HFM.out, hdb]; rfl
  have HC := Lib.hid (H4.out _ HF5.out hub)
  clear hdb hub
  go_wp2_with fail
  refine (HC.out).mono ?_
  rintro e w6 ⟨V, pk, ck, l, rfl, hu, hv, hf⟩
  have HU := Lib.hid hu
  have HV := Lib.hid hv
  have HFF := Lib.hid (fstep HF2.out (fstep HF5.out hf))
  have hsz := HF2.out.size
  clear hu hv hf HC
  go_wp2
  go_ret3
  exact ⟨V, pk, ck, l, rfl, HU.out.mono (by omega), HV.out, HFF.out⟩
/-- As OutU, the row of the slots apart from those of the fibers. -/
def OutU2 (n : Net) (fm : List (Int × Int)) (d : Fib) (w : World) (e : Ending) (w' : World) : Prop := ∃ (V : Value) (pk : Option Addr) (ck : Nat) (l : List CH), e = .returned (.tuple #[V, .slice pk l.length ck, .bool (usOk n fm d)]) ∧ Uss w' w.heap.size V pk ck l ∧ l.map CH.val = (usF n fm d).1 ∧ (∀ x ∈ l, ∀ g o h o', x.r.q = some ⟨g, o, none⟩ → pk = some ⟨h, o', none⟩ → g ≠ h) ∧ Fresh w w'
theorem outU2_no {n : Net} {fm : List (Int × Int)} {d : Fib} {w w' : World} (h : usOk n fm d = false) (hf : Fresh w w') : OutU2 n fm d w (.returned (.tuple #[.slice none 0 0, .slice none 0 0, .bool false])) w' :=
  ⟨_, none, 0, [], by rw [h]; rfl, ⟨Rts.none _ _, ⟨rfl, Or.inl ⟨rfl, rfl⟩⟩⟩, by rw [usF_no h]; rfl, (by intro x hx; cases hx), hf⟩
set_option maxHeartbeats 4000000 in
set_option maxRecDepth 20000 in
theorem implUsableRoutes_2 (v : Value) (n : Net) (pf : Option Addr) (cf : Nat) (fm : List (Int × Int)) (d : Fib) (w : World) (h : NetIn w v n) (hfm : Prs w pf fm) (hfl : fm.length ≤ 1048576) :
    Calls Tryz.prog 13 #[v, .slice pf fm.length cf, fibV d] w (OutU2 n fm d w) := by
  have HN := Lib.hid h
  have HP := Lib.hid hfm
  obtain ⟨qn, cn, pn, cp, rfl, _, _, n1, _, _, _, _⟩ := h
  obtain ⟨W2, hW2, hsz2, hf2, r1, r2⟩ := two_rows w [.slice qn n.nodes.length cn, .slice pn n.fibers.length cp] [.int .i64 d.a, .int .i64 d.b, .int .i64 d.len, .int .i64 d.risk] 37 41
  have HF2 := Lib.hid hf2
  have HW2 := Lib.hid hW2
  have HC := Lib.hid (usable_any (.agg #[.slice qn n.nodes.length cn, .slice pn n.fibers.length cp]) n pf cf fm d W2 (HN.out.keep hf2) (HP.out.keep hf2) hfl)
  have hsz := hf2.size
  clear hfm hf2 r1 r2 hW2
  go_enter Tryz.func13, Tryz.ntmps13
  go_wp2_with fail
  rw [← HW2.out]
  refine (HC.out).mono ?_
  rintro e w3 ⟨V, l, rfl, hc, hv, hf⟩
  have HF3 := Lib.hid (fstep HF2.out hf)
  have hsz3 := hf.size
  have HCH := Lib.hid hc
  have HV := Lib.hid hv
  have hll := ch_len hv
  clear hc hv hf HC
  cases hok : usOk n fm d
  · have HNO := Lib.hid hok
    clear hok
    go_wp2
    go_ret3
    exact outU2_no HNO.out HF3.out
  have HOK := Lib.hid hok
  clear hok
  obtain ⟨p, c, rfl, _, _, _⟩ := owns_cap HCH.out.row
  obtain ⟨W4, hW4⟩ : ∃ W, W = (w3.alloc (.cells #[] 53)).alloc (.cells #[] 3) := ⟨_, rfl⟩
  have hf4 : Fresh w3 W4 := by rw [hW4]; exact fnew (fnew (frefl _) _) _
  have HRA : Hid (RowAt W4 w3.heap.size 53 []) := by show RowAt _ _ _ _; rw [hW4]; exact (RowAt.new w3 _ []).alloc _
  have HRB : Hid (RowAt W4 (w3.heap.size + 1) 3 []) := by
    show RowAt _ _ _ _
    rw [hW4]
    have := RowAt.new (w3.alloc (.cells #[] 53)) 3 []
    simpa using this
  have HF4 := Lib.hid hf4
  have HW4 := Lib.hid hW4
  clear hf4 hW4
  go_wp2
  try rw [← HW4.out]
  go_loopw [11, 12, 28] (fun o s i wr => ∃ j : Nat, j ≤ l.length ∧ i = .int .i64 j ∧ wr.ownsRow w3.heap.size 53 2 o j (((l.take j).map CH.r).flatMap lrC) ∧ wr.ownsRow w3.heap.size 3 1 s j ((l.take j).map fun x => iv x.k) ∧ Fresh w3 wr) (fun _ _ i _ => l.length - (intOf i).toNat)
  case atStart => exact ⟨0, Nat.zero_le _, rfl, ownsRow_zero HRA.out (Nat.le_refl _), ownsRow_zero HRB.out (by omega), HF4.out⟩
  case round =>
    obtain ⟨j, hj, rfl, hown, howk, hf⟩ := hrel
    by_cases hlt : j < l.length
    · have hltz : (j : Int) < (l.length : Int) := by omega
      obtain ⟨g, x, rfl, hx, hm, hc0, hc1, hc2⟩ := chs_at (HCH.out.keep hf) hlt
      have HTK : Hid (l.take (j + 1) = l.take j ++ [x]) := by show _ = _; rw [List.take_add_one, hx]; rfl
      obtain ⟨W5, hW5⟩ : ∃ W, W = wr.alloc (.cells #[.int .i64 x.r.start, .slice x.r.q x.r.fibs.length x.r.cap, .int .i64 x.k] 84) := ⟨_, rfl⟩
      have hf5 : Fresh wr W5 := by rw [hW5]; exact fnew (frefl _) _
      have hr5 : RowAt W5 wr.heap.size 84 [.int .i64 x.r.start, .slice x.r.q x.r.fibs.length x.r.cap, .int .i64 x.k] := by rw [hW5]; exact RowAt.new _ _ _
      have HO := Lib.hid (ownsRow_keep hown hf5)
      have HK := Lib.hid (ownsRow_keep howk hf5)
      have HF5 := Lib.hid (fstep hf hf5)
      have hsz5 : w3.heap.size ≤ wr.heap.size := hf.size
      have HSS : W5.cell? ⟨wr.heap.size, 0, none⟩ = some (.int .i64 x.r.start) ∧ W5.cell? ⟨wr.heap.size, 1, none⟩ = some (.slice x.r.q x.r.fibs.length x.r.cap) ∧ W5.cell? ⟨wr.heap.size, 2, none⟩ = some (.int .i64 x.k) := ⟨hr5.cell (i := 0) rfl, hr5.cell (i := 1) rfl, hr5.cell (i := 2) rfl⟩
      have HW5 := Lib.hid hW5
      have HBX := Lib.hid hr5
      have hn : j ≤ 1048576 := by omega
      clear hown howk hf hx hm hf5 hr5 hW5
      go_wp2
      rw [← HW5.out]
      clear hc0 hc1 hc2
      refine hd_start (n := 10) (S := fun w' => w'.cell? ⟨wr.heap.size, 0, none⟩ = some (.int .i64 x.r.start) ∧ w'.cell? ⟨wr.heap.size, 1, none⟩ = some (.slice x.r.q x.r.fibs.length x.r.cap) ∧ w'.cell? ⟨wr.heap.size, 2, none⟩ = some (.int .i64 x.k)) (by kernel_rfl) (by kernel_rfl) (kq3 HSS (fdrew (frefl _))) (fun hHeld => ?_)
      obtain ⟨x0, hx0⟩ : ∃ W, W = W5.drew := ⟨_, rfl⟩
      rw [← hx0] at hHeld ⊢
      have f0 : Fresh W5 x0 := by rw [hx0]; exact fdrew (frefl _)
      have hbx := HBX.out.keep f0
      have ho := ownsRow_keep HO.out f0
      have ko := ownsRow_keep HK.out f0
      have fw := fstep HF5.out f0
      clear hx0 f0
      refine hd_take (i := 0) (v := ?_) rfl (by kernel_rfl) (by kernel_rfl) (by kernel_rfl) (by kernel_rfl) (fun _ _ _ h => h) (by assumption) (Or.inl ⟨by rfl, ?_⟩) ?_
      rotate_left
      · (intro w hSw; (try dsimp only at hSw); go_simp; first | done | with_reducible rfl)
      try simp only [Act.put, List.getElem_toArray, List.getElem_cons_zero, List.setIfInBounds_toArray, List.set_cons_zero, List.set_cons_succ]
      refine hd_take (i := 1) (v := ?_) rfl (by kernel_rfl) (by kernel_rfl) (by kernel_rfl) (by kernel_rfl) (fun _ _ _ h => h) (by assumption) (Or.inl ⟨by rfl, ?_⟩) ?_
      rotate_left
      · (intro w hSw; (try dsimp only at hSw); go_simp; first | done | with_reducible rfl)
      try simp only [Act.put, List.getElem_toArray, List.getElem_cons_succ, List.getElem_cons_zero, List.setIfInBounds_toArray, List.set_cons_zero, List.set_cons_succ]
      refine hd_take (i := 2) (v := ?_) rfl (by kernel_rfl) (by kernel_rfl) (by kernel_rfl) (by kernel_rfl) (fun _ _ _ h => h) (by assumption) (Or.inl ⟨by rfl, ?_⟩) ?_
      rotate_left
      · (intro w hSw; (try dsimp only at hSw); go_simp; first | done | with_reducible rfl)
      try simp only [Act.put, List.getElem_toArray, List.getElem_cons_succ, List.getElem_cons_zero, List.setIfInBounds_toArray, List.set_cons_zero, List.set_cons_succ]
      refine hd_take (i := 5) (v := ?_) rfl (by kernel_rfl) (by kernel_rfl) (by kernel_rfl) (by kernel_rfl) (fun _ _ _ h => h) (by assumption) (Or.inl ⟨by rfl, ?_⟩) ?_
      rotate_left
      · (intro w hSw; (try dsimp only at hSw); go_simp; first | done | with_reducible rfl)
      try simp only [Act.put, List.getElem_toArray, List.getElem_cons_succ, List.getElem_cons_zero, List.setIfInBounds_toArray, List.set_cons_zero, List.set_cons_succ]
      refine hd_take (i := 6) (v := ?_) rfl (by kernel_rfl) (by kernel_rfl) (by kernel_rfl) (by kernel_rfl) (fun _ _ _ h => h) (by assumption) (Or.inl ⟨by rfl, ?_⟩) ?_
      rotate_left
      · (intro w hSw; (try dsimp only at hSw); go_simp; first | done | with_reducible rfl)
      try simp only [Act.put, List.getElem_toArray, List.getElem_cons_succ, List.getElem_cons_zero, List.setIfInBounds_toArray, List.set_cons_zero, List.set_cons_succ]
      refine hd_take (i := 7) (v := ?_) rfl (by kernel_rfl) (by kernel_rfl) (by kernel_rfl) (by kernel_rfl) (fun _ _ _ h => h) (by assumption) (Or.inl ⟨by rfl, ?_⟩) ?_
      rotate_left
      · (intro w hSw; (try dsimp only at hSw); go_simp; first | done | with_reducible rfl)
      try simp only [Act.put, List.getElem_toArray, List.getElem_cons_succ, List.getElem_cons_zero, List.setIfInBounds_toArray, List.set_cons_zero, List.set_cons_succ]
      refine hd_ready (rs := [3, 8]) (by kernel_rfl) (by simp) ?_
      refine hd_cons (i := 3) rfl (by kernel_rfl) (fun K hK => ?_) ?_
      · skip
        go_simp
        obtain ⟨x1, hx1⟩ : ∃ W, W = x0.alloc (.cells #[.int .i64 x.r.start, .slice x.r.q x.r.fibs.length x.r.cap] 53) := ⟨_, rfl⟩
        rw [← hx1]
        obtain ⟨br, hbe⟩ : ∃ b, b = x0.heap.size := ⟨_, rfl⟩
        have rt : RowAt x1 br 53 [.int .i64 x.r.start, .slice x.r.q x.r.fibs.length x.r.cap] := by rw [hx1, hbe]; exact RowAt.new _ _ _
        have hb : Fresh x0 x1 := by rw [hx1]; exact fnew (frefl _) _
        rw [← hbe]
        replace ho := ownsRow_keep ho hb
        replace ko := ownsRow_keep ko hb
        replace hbx := hbx.keep hb
        replace fw := fstep fw hb
        clear hx1 hbe hb
        refine hK.out _ _ ?_ (fun hHeld => ?_)
        · exact ⟨hbx.cell (i := 0) rfl, hbx.cell (i := 1) rfl, hbx.cell (i := 2) rfl⟩
        clear hK K
        try simp only [Act.put, List.getElem_toArray, List.getElem_cons_succ, List.getElem_cons_zero, List.setIfInBounds_toArray, List.set_cons_zero, List.set_cons_succ]
        refine hd_ready (rs := [4, 8]) (by kernel_rfl) (by simp) ?_
        refine hd_cons (i := 4) rfl (by kernel_rfl) (fun K hK => ?_) ?_
        · skip
          refine step_app_mm (some 36) rfl Tryz.underlying31 infoRt rfl (by decide) (by decide) w3 _ j (((l.take j).map CH.r).flatMap lrC) (some ⟨br, 0, none⟩) 1 1 [.int .i64 x.r.start, .slice x.r.q x.r.fibs.length x.r.cap] rfl _ _ rfl rfl ho rfl rt.cells rfl (one_rt x.r) hn (by decide) fw ?_
          intro q4 c4 x2 ho4 fw4 hk4
          replace hbx := hk4 _ _ _ hbx (Or.inl (by decide))
          replace ko := ownsRow_typ ko (fun g t cs h n => hk4 g t cs h (Or.inl n)) (by decide)
          clear ho fw rt hk4
          have ho := ho4
          have fw := fw4
          clear ho4 fw4
          refine hK.out _ _ ?_ (fun hHeld => ?_)
          · exact ⟨hbx.cell (i := 0) rfl, hbx.cell (i := 1) rfl, hbx.cell (i := 2) rfl⟩
          clear hK K
          try simp only [Act.put, List.getElem_toArray, List.getElem_cons_succ, List.getElem_cons_zero, List.setIfInBounds_toArray, List.set_cons_zero, List.set_cons_succ]
          refine hd_ready (rs := [8]) (by kernel_rfl) (by simp) ?_
          refine hd_cons (i := 8) rfl (by kernel_rfl) (fun K hK => ?_) ?_
          · skip
            go_simp
            obtain ⟨x3, hx3⟩ : ∃ W, W = x2.alloc (.cells #[.int .i64 x.k] 3) := ⟨_, rfl⟩
            rw [← hx3]
            obtain ⟨bk, hbe⟩ : ∃ b, b = x2.heap.size := ⟨_, rfl⟩
            have kt : RowAt x3 bk 3 [.int .i64 x.k] := by rw [hx3, hbe]; exact RowAt.new _ _ _
            have hb : Fresh x2 x3 := by rw [hx3]; exact fnew (frefl _) _
            rw [← hbe]
            replace ho := ownsRow_keep ho hb
            replace ko := ownsRow_keep ko hb
            replace hbx := hbx.keep hb
            replace fw := fstep fw hb
            clear hx3 hbe hb
            refine hK.out _ _ ?_ (fun hHeld => ?_)
            · exact ⟨hbx.cell (i := 0) rfl, hbx.cell (i := 1) rfl, hbx.cell (i := 2) rfl⟩
            clear hK K
            try simp only [Act.put, List.getElem_toArray, List.getElem_cons_succ, List.getElem_cons_zero, List.setIfInBounds_toArray, List.set_cons_zero, List.set_cons_succ]
            refine hd_ready (rs := [9]) (by kernel_rfl) (by simp) ?_
            refine hd_cons (i := 9) rfl (by kernel_rfl) (fun K hK => ?_) ?_
            · skip
              refine step_app_mm (some 41) rfl Tryz.underlying32 infoInt rfl (by decide) (by decide) w3 _ j (List.map (fun y : CH => iv y.k) (l.take j)) (some ⟨bk, 0, none⟩) 1 1 [.int .i64 x.k] rfl _ _ rfl rfl ko rfl kt.cells rfl (by intro u hu; simp at hu; subst hu; rfl) hn (by decide) fw ?_
              intro q9 c9 x4 ko9 fw9 hk9
              replace hbx := hk9 _ _ _ hbx (Or.inl (by decide))
              replace ho := ownsRow_typ ho (fun g t cs h n => hk9 g t cs h (Or.inl n)) (by decide)
              clear ko fw kt hk9
              have ko := ko9
              have fw := fw9
              clear ko9 fw9
              refine hK.out _ _ ?_ (fun hHeld => ?_)
              · exact ⟨hbx.cell (i := 0) rfl, hbx.cell (i := 1) rfl, hbx.cell (i := 2) rfl⟩
              clear hK K
              try simp only [Act.put, List.getElem_toArray, List.getElem_cons_succ, List.getElem_cons_zero, List.setIfInBounds_toArray, List.set_cons_zero, List.set_cons_succ]
              refine hd_done (by kernel_rfl) ?_
              clear hHeld
              simp only [List.drop_succ_cons, List.drop_zero]
              have HRO := Lib.hid ho
              have HKO := Lib.hid ko
              have HF9 := Lib.hid fw
              clear ho ko fw hbx HSS
              go_wp2
              go_roundw
              case rel =>
                refine ⟨j + 1, by omega, by go_num, ?_, ?_, HF9.out⟩
                · rw [HTK.out, List.map_append, List.flatMap_append]
                  exact HRO.out
                · rw [HTK.out, List.map_append]
                  exact HKO.out
              case measure => simp [intOf]; omega
            exact hd_nil
          exact hd_nil
        refine hd_cons (i := 8) rfl (by kernel_rfl) (fun K hK => ?_) ?_
        · skip
          go_simp
          obtain ⟨x2, hx2⟩ : ∃ W, W = x1.alloc (.cells #[.int .i64 x.k] 3) := ⟨_, rfl⟩
          rw [← hx2]
          obtain ⟨bk, hbe⟩ : ∃ b, b = x1.heap.size := ⟨_, rfl⟩
          have kt : RowAt x2 bk 3 [.int .i64 x.k] := by rw [hx2, hbe]; exact RowAt.new _ _ _
          have hb : Fresh x1 x2 := by rw [hx2]; exact fnew (frefl _) _
          rw [← hbe]
          replace rt := rt.keep hb
          replace ho := ownsRow_keep ho hb
          replace ko := ownsRow_keep ko hb
          replace hbx := hbx.keep hb
          replace fw := fstep fw hb
          clear hx2 hbe hb
          refine hK.out _ _ ?_ (fun hHeld => ?_)
          · exact ⟨hbx.cell (i := 0) rfl, hbx.cell (i := 1) rfl, hbx.cell (i := 2) rfl⟩
          clear hK K
          try simp only [Act.put, List.getElem_toArray, List.getElem_cons_succ, List.getElem_cons_zero, List.setIfInBounds_toArray, List.set_cons_zero, List.set_cons_succ]
          refine hd_ready (rs := [4]) (by kernel_rfl) (by simp) ?_
          refine hd_cons (i := 4) rfl (by kernel_rfl) (fun K hK => ?_) ?_
          · skip
            refine step_app_mm (some 36) rfl Tryz.underlying31 infoRt rfl (by decide) (by decide) w3 _ j (((l.take j).map CH.r).flatMap lrC) (some ⟨br, 0, none⟩) 1 1 [.int .i64 x.r.start, .slice x.r.q x.r.fibs.length x.r.cap] rfl _ _ rfl rfl ho rfl rt.cells rfl (one_rt x.r) hn (by decide) fw ?_
            intro q4 c4 x3 ho4 fw4 hk4
            replace hbx := hk4 _ _ _ hbx (Or.inl (by decide))
            replace kt := hk4 _ _ _ kt (Or.inl (by decide))
            replace ko := ownsRow_typ ko (fun g t cs h n => hk4 g t cs h (Or.inl n)) (by decide)
            clear ho fw rt hk4
            have ho := ho4
            have fw := fw4
            clear ho4 fw4
            refine hK.out _ _ ?_ (fun hHeld => ?_)
            · exact ⟨hbx.cell (i := 0) rfl, hbx.cell (i := 1) rfl, hbx.cell (i := 2) rfl⟩
            clear hK K
            try simp only [Act.put, List.getElem_toArray, List.getElem_cons_succ, List.getElem_cons_zero, List.setIfInBounds_toArray, List.set_cons_zero, List.set_cons_succ]
            refine hd_ready (rs := [9]) (by kernel_rfl) (by simp) ?_
            refine hd_cons (i := 9) rfl (by kernel_rfl) (fun K hK => ?_) ?_
            · skip
              refine step_app_mm (some 41) rfl Tryz.underlying32 infoInt rfl (by decide) (by decide) w3 _ j (List.map (fun y : CH => iv y.k) (l.take j)) (some ⟨bk, 0, none⟩) 1 1 [.int .i64 x.k] rfl _ _ rfl rfl ko rfl kt.cells rfl (by intro u hu; simp at hu; subst hu; rfl) hn (by decide) fw ?_
              intro q9 c9 x4 ko9 fw9 hk9
              replace hbx := hk9 _ _ _ hbx (Or.inl (by decide))
              replace ho := ownsRow_typ ho (fun g t cs h n => hk9 g t cs h (Or.inl n)) (by decide)
              clear ko fw kt hk9
              have ko := ko9
              have fw := fw9
              clear ko9 fw9
              refine hK.out _ _ ?_ (fun hHeld => ?_)
              · exact ⟨hbx.cell (i := 0) rfl, hbx.cell (i := 1) rfl, hbx.cell (i := 2) rfl⟩
              clear hK K
              try simp only [Act.put, List.getElem_toArray, List.getElem_cons_succ, List.getElem_cons_zero, List.setIfInBounds_toArray, List.set_cons_zero, List.set_cons_succ]
              refine hd_done (by kernel_rfl) ?_
              clear hHeld
              simp only [List.drop_succ_cons, List.drop_zero]
              have HRO := Lib.hid ho
              have HKO := Lib.hid ko
              have HF9 := Lib.hid fw
              clear ho ko fw hbx HSS
              go_wp2
              go_roundw
              case rel =>
                refine ⟨j + 1, by omega, by go_num, ?_, ?_, HF9.out⟩
                · rw [HTK.out, List.map_append, List.flatMap_append]
                  exact HRO.out
                · rw [HTK.out, List.map_append]
                  exact HKO.out
              case measure => simp [intOf]; omega
            exact hd_nil
          exact hd_nil
        exact hd_nil
      refine hd_cons (i := 8) rfl (by kernel_rfl) (fun K hK => ?_) ?_
      · skip
        go_simp
        obtain ⟨x1, hx1⟩ : ∃ W, W = x0.alloc (.cells #[.int .i64 x.k] 3) := ⟨_, rfl⟩
        rw [← hx1]
        obtain ⟨bk, hbe⟩ : ∃ b, b = x0.heap.size := ⟨_, rfl⟩
        have kt : RowAt x1 bk 3 [.int .i64 x.k] := by rw [hx1, hbe]; exact RowAt.new _ _ _
        have hb : Fresh x0 x1 := by rw [hx1]; exact fnew (frefl _) _
        rw [← hbe]
        replace ho := ownsRow_keep ho hb
        replace ko := ownsRow_keep ko hb
        replace hbx := hbx.keep hb
        replace fw := fstep fw hb
        clear hx1 hbe hb
        refine hK.out _ _ ?_ (fun hHeld => ?_)
        · exact ⟨hbx.cell (i := 0) rfl, hbx.cell (i := 1) rfl, hbx.cell (i := 2) rfl⟩
        clear hK K
        try simp only [Act.put, List.getElem_toArray, List.getElem_cons_succ, List.getElem_cons_zero, List.setIfInBounds_toArray, List.set_cons_zero, List.set_cons_succ]
        refine hd_ready (rs := [3]) (by kernel_rfl) (by simp) ?_
        refine hd_cons (i := 3) rfl (by kernel_rfl) (fun K hK => ?_) ?_
        · skip
          go_simp
          obtain ⟨x2, hx2⟩ : ∃ W, W = x1.alloc (.cells #[.int .i64 x.r.start, .slice x.r.q x.r.fibs.length x.r.cap] 53) := ⟨_, rfl⟩
          rw [← hx2]
          obtain ⟨br, hbe⟩ : ∃ b, b = x1.heap.size := ⟨_, rfl⟩
          have rt : RowAt x2 br 53 [.int .i64 x.r.start, .slice x.r.q x.r.fibs.length x.r.cap] := by rw [hx2, hbe]; exact RowAt.new _ _ _
          have hb : Fresh x1 x2 := by rw [hx2]; exact fnew (frefl _) _
          rw [← hbe]
          replace kt := kt.keep hb
          replace ho := ownsRow_keep ho hb
          replace ko := ownsRow_keep ko hb
          replace hbx := hbx.keep hb
          replace fw := fstep fw hb
          clear hx2 hbe hb
          refine hK.out _ _ ?_ (fun hHeld => ?_)
          · exact ⟨hbx.cell (i := 0) rfl, hbx.cell (i := 1) rfl, hbx.cell (i := 2) rfl⟩
          clear hK K
          try simp only [Act.put, List.getElem_toArray, List.getElem_cons_succ, List.getElem_cons_zero, List.setIfInBounds_toArray, List.set_cons_zero, List.set_cons_succ]
          refine hd_ready (rs := [4]) (by kernel_rfl) (by simp) ?_
          refine hd_cons (i := 4) rfl (by kernel_rfl) (fun K hK => ?_) ?_
          · skip
            refine step_app_mm (some 36) rfl Tryz.underlying31 infoRt rfl (by decide) (by decide) w3 _ j (((l.take j).map CH.r).flatMap lrC) (some ⟨br, 0, none⟩) 1 1 [.int .i64 x.r.start, .slice x.r.q x.r.fibs.length x.r.cap] rfl _ _ rfl rfl ho rfl rt.cells rfl (one_rt x.r) hn (by decide) fw ?_
            intro q4 c4 x3 ho4 fw4 hk4
            replace hbx := hk4 _ _ _ hbx (Or.inl (by decide))
            replace kt := hk4 _ _ _ kt (Or.inl (by decide))
            replace ko := ownsRow_typ ko (fun g t cs h n => hk4 g t cs h (Or.inl n)) (by decide)
            clear ho fw rt hk4
            have ho := ho4
            have fw := fw4
            clear ho4 fw4
            refine hK.out _ _ ?_ (fun hHeld => ?_)
            · exact ⟨hbx.cell (i := 0) rfl, hbx.cell (i := 1) rfl, hbx.cell (i := 2) rfl⟩
            clear hK K
            try simp only [Act.put, List.getElem_toArray, List.getElem_cons_succ, List.getElem_cons_zero, List.setIfInBounds_toArray, List.set_cons_zero, List.set_cons_succ]
            refine hd_ready (rs := [9]) (by kernel_rfl) (by simp) ?_
            refine hd_cons (i := 9) rfl (by kernel_rfl) (fun K hK => ?_) ?_
            · skip
              refine step_app_mm (some 41) rfl Tryz.underlying32 infoInt rfl (by decide) (by decide) w3 _ j (List.map (fun y : CH => iv y.k) (l.take j)) (some ⟨bk, 0, none⟩) 1 1 [.int .i64 x.k] rfl _ _ rfl rfl ko rfl kt.cells rfl (by intro u hu; simp at hu; subst hu; rfl) hn (by decide) fw ?_
              intro q9 c9 x4 ko9 fw9 hk9
              replace hbx := hk9 _ _ _ hbx (Or.inl (by decide))
              replace ho := ownsRow_typ ho (fun g t cs h n => hk9 g t cs h (Or.inl n)) (by decide)
              clear ko fw kt hk9
              have ko := ko9
              have fw := fw9
              clear ko9 fw9
              refine hK.out _ _ ?_ (fun hHeld => ?_)
              · exact ⟨hbx.cell (i := 0) rfl, hbx.cell (i := 1) rfl, hbx.cell (i := 2) rfl⟩
              clear hK K
              try simp only [Act.put, List.getElem_toArray, List.getElem_cons_succ, List.getElem_cons_zero, List.setIfInBounds_toArray, List.set_cons_zero, List.set_cons_succ]
              refine hd_done (by kernel_rfl) ?_
              clear hHeld
              simp only [List.drop_succ_cons, List.drop_zero]
              have HRO := Lib.hid ho
              have HKO := Lib.hid ko
              have HF9 := Lib.hid fw
              clear ho ko fw hbx HSS
              go_wp2
              go_roundw
              case rel =>
                refine ⟨j + 1, by omega, by go_num, ?_, ?_, HF9.out⟩
                · rw [HTK.out, List.map_append, List.flatMap_append]
                  exact HRO.out
                · rw [HTK.out, List.map_append]
                  exact HKO.out
              case measure => simp [intOf]; omega
            exact hd_nil
          exact hd_nil
        exact hd_nil
      exact hd_nil
    · have hjn : j = l.length := by omega
      have hltz : ¬ (j : Int) < (l.length : Int) := by omega
      subst hjn
      rw [List.take_length] at hown howk
      have HO := Lib.hid hown
      have HK := Lib.hid howk
      have HFF := Lib.hid hf
      clear hown howk hf
      obtain ⟨pk, ck, hs, hok, _, _⟩ := owns_cap HK.out
      subst hs
      have HAP : Hid (∀ x ∈ l, ∀ g o h o', x.r.q = some ⟨g, o, none⟩ → pk = some ⟨h, o', none⟩ → g ≠ h) := by
        intro x hx g o h o' e1 e2
        have h1 : g < w3.heap.size := by
          rcases HCH.out.fib x hx with ⟨h9, _⟩ | ⟨g', sp, h9, _, hr⟩
          · rw [h9] at e1; cases e1
          · rw [h9] at e1; cases e1; exact hr.lt
        have h2 : w3.heap.size ≤ h := by
          rcases hok with ⟨h9, _⟩ | ⟨g', sp, h9, h8, _⟩
          · rw [h9] at e2; cases e2
          · rw [h9] at e2; cases e2; exact h8
        omega
      clear hok
      go_wp2
      go_ret3
      refine ⟨_, pk, ck, l, by rw [HOK.out]; (first | done | rfl), ⟨⟨by rw [List.length_map]; exact owns_mono HO.out (by omega), fun y hy => ?_, HCH.out.dist, fun y hy => ?_⟩, owns_mono HK.out (by omega)⟩, HV.out, HAP.out, fstep HF3.out HFF.out⟩
      · obtain ⟨z, hz, rfl⟩ := List.mem_map.1 hy
        exact ((HCH.out.fib z hz).mono (by omega)).keep HFF.out
      · obtain ⟨z, hz, rfl⟩ := List.mem_map.1 hy
        exact HCH.out.cap z hz
theorem implUsableRoutes_any (v : Value) (n : Net) (pf : Option Addr) (cf : Nat) (fm : List (Int × Int)) (d : Fib) (w : World) (h : NetIn w v n) (hfm : Prs w pf fm) (hfl : fm.length ≤ 1048576) :
    Calls Tryz.prog 13 #[v, .slice pf fm.length cf, fibV d] w (OutU n fm d w) :=
  (implUsableRoutes_2 v n pf cf fm d w h hfm hfl).mono fun _ _ ⟨V, pk, ck, l, h1, h2, h3, _, h5⟩ => ⟨V, pk, ck, l, h1, h2, h3, h5⟩
end Go.Proofs.YtlcppdbpajdnlaaGreat
