/- Contracts: the best pair of routes, the program's side: the walk. -/
import Derived.Test.YtlapicgeokjpjaaGreatBp2
import Derived.Test.YtlapicgeokjpjaaGreatM5
import Derived.Test.YtlapicgeokjpjaaGreatTr
namespace Go.Proofs.YtlapicgeokjpjaaGreat
open Go.RowKit Go.PlainAid

theorem bestF_no {n : Net} {s t k : Int} (h : okK n s t k = false) : bestF n s t k = ((0, []), (0, []), false, false) := by unfold bestF; rw [h]; rfl
theorem bestF_none {n : Net} {s t k : Int} (h : okK n s t k = true) (h2 : bestP n s t k = none) : bestF n s t k = ((0, []), (0, []), false, true) := by unfold bestF; rw [h, h2]; rfl
theorem bestF_some {n : Net} {s t k : Int} {x : Nat × Nat} (h : okK n s t k = true) (h2 : bestP n s t k = some x) : bestF n s t k = (((allR n s t)[x.1]?).getD (0, []), ((allR n s t)[x.2]?).getD (0, []), true, true) := by unfold bestF; rw [h, h2]; rfl
theorem rt_zero (w : World) (base : Nat) : RtOwn w base (.agg #[.int .i64 0, .slice none 0 0]) (0, []) := ⟨none, 0, rfl, Or.inl ⟨rfl, rfl⟩⟩
theorem apart_zero : RtApart (.agg #[.int .i64 0, .slice none 0 0]) (.agg #[.int .i64 0, .slice none 0 0]) := by
  intro a q m c a' q' m' c' e e' g o h o' hq hq'
  simp at e
  obtain ⟨_, rfl, _⟩ := e
  cases hq
theorem rts_apart {w : World} {base : Nat} {V : Value} {l : List LR} (h : Rts w base V l) {i k : Nat} {x y : LR} (hik : i ≠ k) (hx : l[i]? = some x) (hy : l[k]? = some y) : RtApart (.agg #[.int .i64 x.start, .slice x.q x.fibs.length x.cap]) (.agg #[.int .i64 y.start, .slice y.q y.fibs.length y.cap]) := by
  intro a q m c a' q' m' c' e e' g o g' o' hq hq'
  simp at e e'
  obtain ⟨_, rfl, _⟩ := e
  obtain ⟨_, rfl, _⟩ := e'
  exact h.dist i k x y hik hx hy g o g' o' hq hq'
theorem rts_own {w : World} {base : Nat} {V : Value} {l : List LR} (h : Rts w base V l) {i : Nat} {x : LR} (hx : l[i]? = some x) : RtOwn w base (.agg #[.int .i64 x.start, .slice x.q x.fibs.length x.cap]) (((l.map LR.val)[i]?).getD (0, [])) := by
  rw [List.getElem?_map, hx]
  exact ⟨x.q, x.cap, rfl, h.fib x (List.mem_of_getElem? hx)⟩
theorem rts_small {n : Net} {s t : Int} {l : List LR} (hn : netB n = true) (hs : 0 ≤ s ∧ s < (n.nodes.length : Int)) (hl : ∀ x ∈ l, x.start = s ∧ RtGood n s t x.fibs) : ∀ x ∈ l, RtOk n x.fibs ∧ x.fibs.length ≤ 100 := by
  intro x hx
  have h2 := (hl x hx).2
  obtain ⟨_, _, a3, a4, _⟩ := nodes_at hn hs h2
  exact ⟨rt_ok hn hs h2, by omega⟩
theorem bestF_small (n : Net) (s t k : Int) : SmRt (bestF n s t k).1 ∧ SmRt (bestF n s t k).2.1 := by
  cases h : okK n s t k
  · rw [bestF_no h]; exact ⟨by simp [SmRt], by simp [SmRt]⟩
  · have hok : okA n s t = true := by unfold okK at h; simp only [Bool.and_eq_true] at h; exact h.1
    have hp := pairB_in (okA_pair hok)
    have hsm : ∀ i : Nat, SmRt (((allR n s t)[i]?).getD (0, [])) := by
      intro i
      cases hi : (allR n s t)[i]? with
      | none => simp [SmRt]
      | some R =>
        have hg := good_mem (List.mem_of_getElem? hi)
        obtain ⟨_, _, a3, a4, _⟩ := nodes_at hp.1 hp.2.1 hg.2
        simp [SmRt]; omega
    cases h2 : bestP n s t k with
    | none => rw [bestF_none h h2]; exact ⟨by simp [SmRt], by simp [SmRt]⟩
    | some x => rw [bestF_some h h2]; exact ⟨hsm _, hsm _⟩
theorem RtOwn.setO {w : World} {base : Nat} {v : Value} {R : Int × List Int} (h : RtOwn w base v R) {b : Nat} (hb : b < base) (o : Nat) (u : Value) : RtOwn (w.setCell ⟨b, o, none⟩ u) base v R := by
  obtain ⟨q, c, h1, h2⟩ := h
  exact ⟨q, c, h1, h2.setOther hb u⟩
theorem enters_best (args : Array Value) (w : World) : (callFunc 31 args).run Tryz.prog w = .ok (.enter 31 args) w := enters_of Tryz.func31 (by kernel_rfl) rfl args w
/-- Three new boxes, in whatever order they were made. -/
theorem best_rows (w : World) (a b c : Obj) {t : TypeId} {xs : List Value} : (a = .cells xs.toArray t → RowAt (((w.alloc a).alloc b).alloc c).drew w.heap.size t xs) ∧ (b = .cells xs.toArray t → RowAt (((w.alloc a).alloc b).alloc c).drew (w.heap.size + 1) t xs) ∧ (c = .cells xs.toArray t → RowAt (((w.alloc a).alloc b).alloc c).drew (w.heap.size + 1 + 1) t xs) := by
  refine ⟨fun h => ?_, fun h => ?_, fun h => ?_⟩
  · subst h; exact ((RowAt.new w t xs).alloc b).alloc c
  · subst h
    have := RowAt.new (w.alloc a) t xs
    rw [show (w.alloc a).heap.size = w.heap.size + 1 by simp] at this
    exact this.alloc c
  · subst h
    have := RowAt.new ((w.alloc a).alloc b) t xs
    rw [show ((w.alloc a).alloc b).heap.size = w.heap.size + 1 + 1 by simp] at this
    exact this
def OutBp (n : Net) (s t k : Int) (w : World) (e : Ending) (w' : World) : Prop := ∃ vA vB, e = .returned (.tuple #[vA, vB, .bool (bestF n s t k).2.2.1, .bool (bestF n s t k).2.2.2]) ∧ (RtOwn w' w.heap.size vA (bestF n s t k).1 ∧ RtOwn w' w.heap.size vB (bestF n s t k).2.1 ∧ RtApart vA vB) ∧ Fresh w w'
set_option maxHeartbeats 4000000 in
set_option maxRecDepth 20000 in
theorem implBestPair_any (v : Value) (n : Net) (s t k : Int) (w : World) (h : NetIn w v n) :
    Calls Tryz.prog 11 #[v, .int .i64 s, .int .i64 t, .int .i64 k] w (OutBp n s t k w) := by
  have hmf : ∀ (fn : Fn) (first cap : Array Value) (w : World), (Instr.makeFunc fn first cap).run Tryz.prog w = .ok (.func fn first cap) w := fun _ _ _ _ => rfl
  have HN := Lib.hid h
  obtain ⟨qn, cn, pn, cp, rfl, _, _, n1, _, _, _, _⟩ := h
  obtain ⟨W3, hW3, hsz3, hf3, r1, r2, r3⟩ := three_rows w [.slice qn n.nodes.length cn, .slice pn n.fibers.length cp] [.int .i64 0, .slice none 0 0] [.int .i64 0, .slice none 0 0] 27 39 39
  have HF3 := Lib.hid hf3
  have HW3 := Lib.hid hW3
  have HR1 := Lib.hid r1
  have HR2 := Lib.hid r2
  have HR3 := Lib.hid r3
  have HRF := Lib.hid (routesFor_any _ n s t k W3 (HN.out.keep hf3))
  have HS3 := Lib.hid hsz3
  clear hf3 hW3 r1 r2 r3 hsz3
  have hAB : w.heap.size + 1 ≠ w.heap.size + 1 + 1 := by omega
  have hBA : w.heap.size + 1 + 1 ≠ w.heap.size + 1 := by omega
  cases hok : okK n s t k
  · have HDEF := Lib.hid (bestF_no hok)
    go_enter Tryz.func11, Tryz.ntmps11
    go_wp2_with fail
    rw [← HW3.out]
    refine (HRF.out).mono ?_
    rintro e w4 ⟨V, l, rfl, hr, hv, hf⟩
    have HF := Lib.hid (fstep HF3.out hf)
    have hA := HR2.out.keep hf
    have hB0 := HR3.out.keep hf
    have hB := (hB0.setOther hBA (o := 0) (.int .i64 0)).setOther hBA (o := 1) (.slice none 0 0)
    have z0 := hA.cell (i := 0) rfl
    have z1 := hA.cell (i := 1) rfl
    have u0 := hA.frozen 0
    have u1 := hA.frozen 1
    have y0 := hB.cell (i := 0) rfl
    have y1 := hB.cell (i := 1) rfl
    have y2 := hB.frozen 0
    have y3 := hB.frozen 1
    have hA' := (((hA.set 0 (.int .i64 0)).set 1 (.slice none 0 0)).setOther hAB (o := 0) (.int .i64 0)).setOther hAB (o := 1) (.slice none 0 0)
    have hB' := (hB.set 0 (.int .i64 0)).set 1 (.slice none 0 0)
    have k0 := hA'.cell (i := 0) rfl
    have k1 := hA'.cell (i := 1) rfl
    have k2 := hB'.cell (i := 0) rfl
    have k3 := hB'.cell (i := 1) rfl
    clear hr hv hf hA hB hB0 hA' hB'
    rw [hok]
    go_wp2
    refine bodyPost_ret (v := .tuple #[.agg #[.int .i64 0, .slice none 0 0], .agg #[.int .i64 0, .slice none 0 0], .bool false, .bool false]) (by simp [results, Tryz.results11, go_sem, k0, k1, k2, k3]) rfl ?_
    refine ⟨_, _, by rw [HDEF.out], ⟨by rw [HDEF.out]; exact rt_zero _ _, by rw [HDEF.out]; exact rt_zero _ _, apart_zero⟩, fset (fset (fset (fset HF.out (by omega) _) (by omega) _) (by omega) _) (by omega) _⟩
  · have hok2 : okA n s t = true ∧ kindB k = true := by unfold okK at hok; simpa using hok
    have HOK := Lib.hid hok2
    have HOKK := Lib.hid hok
    go_enter Tryz.func11, Tryz.ntmps11
    go_wp2_with fail
    rw [← HW3.out]
    refine (HRF.out).mono ?_
    rintro e w3 ⟨V, l, rfl, hr, hv, hf⟩
    rw [hok]
    obtain ⟨p, c, rfl, _, _, _⟩ := owns_cap hr.row
    have HF := Lib.hid (fstep HF3.out hf)
    have hval : l.map LR.val = allR n s t := by rw [hv, (okA_len HOK.out.1).2]
    have HVAL := Lib.hid hval
    have hll : l.length ≤ 200 := by
      have := congrArg List.length hval
      rw [List.length_map] at this
      rw [this]; exact (okA_len HOK.out.1).1
    have HRW := Lib.hid hr
    have HR1' := Lib.hid (HR1.out.keep hf)
    have HR2' := Lib.hid (HR2.out.keep hf)
    have HR3' := Lib.hid (HR3.out.keep hf)
    have HSZ : Hid (W3.heap.size ≤ w3.heap.size) := hf.size
    clear hr hv hf hval hok hok2 HRF
    obtain ⟨W4, hW4, hsz4, hf4, b1, b2, b3⟩ := three_rows w3 [.int .i64 0, .slice none 0 0] [.int .i64 0, .slice none 0 0] [.int .i64 (-1)] 39 39 3
    have HW4 := Lib.hid hW4
    have HF4 := Lib.hid hf4
    have HB1 := Lib.hid b1
    have HB2 := Lib.hid b2
    have HB3 := Lib.hid b3
    have HSZ4 := Lib.hid hsz4
    have hg3 : w.heap.size ≤ w3.heap.size := HF.out.size
    have hbn : w.heap.size < w3.heap.size := by have := HSZ.out; have := HS3.out; omega
    have hbA : w.heap.size + 1 < w3.heap.size := by have := HSZ.out; have := HS3.out; omega
    have hbB : w.heap.size + 1 + 1 < w3.heap.size := by have := HSZ.out; have := HS3.out; omega
    have c0 := ((HR1'.out.keep hf4)).cell (i := 0) rfl
    have c1 := ((HR1'.out.keep hf4)).cell (i := 1) rfl
    rw [hW4] at c0 c1
    have hnet := (pairB_in (okA_pair HOK.out.1)).1
    have hgood := rts_good HVAL.out
    have hsm := rts_small hnet (pairB_in (okA_pair HOK.out.1)).2.1 hgood
    have hp4 : w3.heap.size ≤ w3.heap.size + 1 + 1 ∧ w3.heap.size + 1 + 1 < W4.heap.size := by omega
    have HPA := Lib.hid (pairs_any w w3 w3.heap.size W4.heap.size W3.heap.size (InvB w qn pn cn cp n l w.heap.size (w3.heap.size + 1 + 1) w3.heap.size (w3.heap.size + 1)) 31 #[.pointer (some ⟨w.heap.size, 0, none⟩), .pointer (some ⟨w3.heap.size + 1 + 1, 0, none⟩), .pointer (some ⟨w3.heap.size, 0, none⟩), .pointer (some ⟨w3.heap.size + 1, 0, none⟩)] _ n s t k p c l HN.out hnet (pairB_in (okA_pair HOK.out.1)).2.1 (kindB_in HOK.out.2) hgood (by omega) enters_best
      (fun L w h => h.1) (fun L a b h hb => h.keep hb) HRW.out (Nat.le_refl _)
      (fun L i k x y w' _ hx hy hi hr => bpStep_any w qn pn cn cp n l w.heap.size (w3.heap.size + 1 + 1) w3.heap.size (w3.heap.size + 1) w3.heap.size W4.heap.size W3.heap.size _ L i k x y w' HN.out (net_len hnet) hsm (by omega) (by omega) (by omega) hp4 (by omega) (by omega) hg3 hbn hx hy hi hr)
      W4 ⟨fstep HF.out hf4, HR1'.out.keep hf4, Or.inl ⟨rfl, b3, b1, b2⟩⟩ (Kp.fresh hf4) (Nat.le_refl _))
    rw [HVAL.out] at HPA
    have HLEN : Hid (l.length = (allR n s t).length) := by show _ = _; rw [← HVAL.out]; simp
    rw [HLEN.out] at HPA
    have HCT : Hid (pairsF n s t k = toI (dP n s (allR n s t) k) (allR n s t).length (allR n s t).length) := rfl
    rw [← HCT.out, ← HLEN.out] at HPA
    clear b1 b2 b3 hf4 hW4 hsz4 hnet hgood hsm hp4
    go_wp2_with fail
    rw [← HW4.out]
    refine (HPA.out).mono ?_
    rintro e w5 ⟨rfl, hi5, hk5⟩
    have HI5 := Lib.hid hi5
    have HRA : Hid (RowAt w5 (w.heap.size + 1) 39 [.int .i64 0, .slice none 0 0]) := hk5 _ _ _ (HR2'.out.keep HF4.out) (Or.inl hbA)
    have HRB : Hid (RowAt w5 (w.heap.size + 1 + 1) 39 [.int .i64 0, .slice none 0 0]) := hk5 _ _ _ (HR3'.out.keep HF4.out) (Or.inl hbB)
    have HRT : Hid (Rts w5 W3.heap.size (.slice p l.length c) l) := (Kp.trans (Kp.fresh HF4.out) hk5).rts HRW.out (Nat.le_refl _)
    clear hk5 c0 c1 HPA
    have HE : ∃ (a : Int) (q1 : Option Addr) (m1 c1 : Nat) (a' : Int) (q2 : Option Addr) (m2 c2 : Nat) (mm : Int), RowAt w5 w3.heap.size 39 [.int .i64 a, .slice q1 m1 c1] ∧ RowAt w5 (w3.heap.size + 1) 39 [.int .i64 a', .slice q2 m2 c2] ∧ RowAt w5 (w3.heap.size + 1 + 1) 3 [.int .i64 mm] ∧ (bestF n s t k).2.2.1 = decide (0 ≤ mm) ∧ (bestF n s t k).2.2.2 = true ∧
        RtOwn w5 W3.heap.size (.agg #[.int .i64 a, .slice q1 m1 c1]) (bestF n s t k).1 ∧ RtOwn w5 W3.heap.size (.agg #[.int .i64 a', .slice q2 m2 c2]) (bestF n s t k).2.1 ∧ RtApart (.agg #[.int .i64 a, .slice q1 m1 c1]) (.agg #[.int .i64 a', .slice q2 m2 c2]) := by
      obtain ⟨_, _, h3⟩ := HI5.out
      rw [HVAL.out] at h3
      rcases h3 with ⟨e0, rl, rx, ry⟩ | ⟨z, x, y, e0, ex, ey, rl, rx, ry⟩
      · refine ⟨_, _, _, _, _, _, _, _, _, rx, ry, rl, ?_, ?_, ?_, ?_, apart_zero⟩
        all_goals rw [bestF_none HOKK.out e0]
        · rfl
        · exact rt_zero _ _
        · exact rt_zero _ _
      · have hlt : z.1 < z.2 := (mem_toI.1 (bestQ_mem e0)).2.1
        have ox := rts_own HRT.out ex
        have oy := rts_own HRT.out ey
        rw [HVAL.out] at ox oy
        have b1 := lenR_bd (n := n) (l := x.fibs) (net_len (pairB_in (okA_pair HOK.out.1)).1)
        have b2 := lenR_bd (n := n) (l := y.fibs) (net_len (pairB_in (okA_pair HOK.out.1)).1)
        refine ⟨_, _, _, _, _, _, _, _, _, rx, ry, rl, ?_, ?_, ?_, ?_, rts_apart HRT.out (by omega) ex ey⟩
        all_goals rw [bestF_some HOKK.out e0]
        · exact (decide_eq_true (by omega)).symm
        · exact ox
        · exact oy
    obtain ⟨a, q1, m1, k1, a', q2, m2, k2, mm, rx, ry, rl, hb1, hb2, ox, oy, hap⟩ := HE
    have HOX := Lib.hid ox
    have HOY := Lib.hid oy
    have HAP := Lib.hid hap
    have HBB := Lib.hid (And.intro hb1 hb2)
    have HF5 := Lib.hid HI5.out.1
    have x0 := rx.cell (i := 0) rfl
    have x1 := rx.cell (i := 1) rfl
    have y0 := ry.cell (i := 0) rfl
    have y1 := ry.cell (i := 1) rfl
    have z0 := rl.cell (i := 0) rfl
    have HX := Lib.hid rx
    have HY := Lib.hid ry
    have HZ := Lib.hid rl
    obtain ⟨bb, hbb⟩ : ∃ b, b = decide (0 ≤ mm) := ⟨_, rfl⟩
    have hbb' := hbb.symm
    have HBE := Lib.hid hbb
    clear ox oy hap hb1 hb2 rx ry rl hbb
    go_wp2
    refine hd_start (n := 6) (S := fun w' => w'.cell? ⟨w3.heap.size, 0, none⟩ = some (.int .i64 a) ∧ w'.cell? ⟨w3.heap.size, 1, none⟩ = some (.slice q1 m1 k1) ∧ w'.cell? ⟨w3.heap.size + 1, 0, none⟩ = some (.int .i64 a') ∧ w'.cell? ⟨w3.heap.size + 1, 1, none⟩ = some (.slice q2 m2 k2) ∧ w'.cell? ⟨w3.heap.size + 1 + 1, 0, none⟩ = some (.int .i64 mm)) (by kernel_rfl) (by kernel_rfl) ⟨fkeep (fdrew (frefl _)) x0, fkeep (fdrew (frefl _)) x1, fkeep (fdrew (frefl _)) y0, fkeep (fdrew (frefl _)) y1, fkeep (fdrew (frefl _)) z0⟩ (fun hHeld => ?_)
    obtain ⟨W0, hW0⟩ : ∃ W, W = w5.drew := ⟨_, rfl⟩
    rw [← hW0] at hHeld ⊢
    have f0 : Fresh w5 W0 := by rw [hW0]; exact fdrew (frefl _)
    clear hW0 x0 x1 y0 y1 z0
    refine hd_tk (i := 0) (v := ?_) rfl ?_ ?_
    rotate_left
    · (intro w hSw; (try dsimp only at hSw); go_simp; first | done | with_reducible rfl)
    try simp only [PU]
    refine hd_tk (i := 1) (v := ?_) rfl ?_ ?_
    rotate_left
    · (intro w hSw; (try dsimp only at hSw); go_simp; first | done | with_reducible rfl)
    try simp only [PU]
    refine hd_tk (i := 2) (v := ?_) rfl ?_ ?_
    rotate_left
    · (intro w hSw; (try dsimp only at hSw); go_simp; first | done | with_reducible rfl)
    try simp only [PU]
    refine hd_tk (i := 3) (v := ?_) rfl ?_ ?_
    rotate_left
    · (intro w hSw; (try dsimp only at hSw); go_simp; first | done | with_reducible rfl)
    try simp only [PU]
    have pA := HRA.out.keep f0
    have pB := HRB.out.keep f0
    have pX := HX.out.keep f0
    have pY := HY.out.keep f0
    have pZ := HZ.out.keep f0
    have q0 := pA.cell (i := 0) rfl
    have q1' := pA.cell (i := 1) rfl
    have q2' := pA.frozen 0
    have q3 := pA.frozen 1
    have nX : w3.heap.size ≠ w.heap.size + 1 := by omega
    have nY : w3.heap.size + 1 ≠ w.heap.size + 1 := by omega
    have nZ : w3.heap.size + 1 + 1 ≠ w.heap.size + 1 := by omega
    have mX : w3.heap.size ≠ w.heap.size + 1 + 1 := by omega
    have mY : w3.heap.size + 1 ≠ w.heap.size + 1 + 1 := by omega
    have mZ : w3.heap.size + 1 + 1 ≠ w.heap.size + 1 + 1 := by omega
    have pX' := (pX.setOther nX (o := 0) (.int .i64 a)).setOther nX (o := 1) (.slice q1 m1 k1)
    have pY' := (pY.setOther nY (o := 0) (.int .i64 a)).setOther nY (o := 1) (.slice q1 m1 k1)
    have pZ' := (pZ.setOther nZ (o := 0) (.int .i64 a)).setOther nZ (o := 1) (.slice q1 m1 k1)
    refine hd_one (i := 4) rfl (by kernel_rfl) (by kernel_rfl) (fun K hK => ?_)
    (go_simp)
    refine hK.out _ _ ?_ (fun hHeld => ?_)
    · exact ⟨pX'.cell (i := 0) rfl, pX'.cell (i := 1) rfl, pY'.cell (i := 0) rfl, pY'.cell (i := 1) rfl, pZ'.cell (i := 0) rfl⟩
    clear hK K
    try simp only [PU]
    have pB' := (pB.setOther hBA (o := 0) (.int .i64 a)).setOther hBA (o := 1) (.slice q1 m1 k1)
    have r0 := pB'.cell (i := 0) rfl
    have r1 := pB'.cell (i := 1) rfl
    have r2 := pB'.frozen 0
    have r3 := pB'.frozen 1
    have pX2 := (pX'.setOther mX (o := 0) (.int .i64 a')).setOther mX (o := 1) (.slice q2 m2 k2)
    have pY2 := (pY'.setOther mY (o := 0) (.int .i64 a')).setOther mY (o := 1) (.slice q2 m2 k2)
    have pZ2 := (pZ'.setOther mZ (o := 0) (.int .i64 a')).setOther mZ (o := 1) (.slice q2 m2 k2)
    refine hd_one (i := 5) rfl (by kernel_rfl) (by kernel_rfl) (fun K hK => ?_)
    (go_simp)
    refine hK.out _ _ ?_ (fun hHeld => ?_)
    · exact ⟨pX2.cell (i := 0) rfl, pX2.cell (i := 1) rfl, pY2.cell (i := 0) rfl, pY2.cell (i := 1) rfl, pZ2.cell (i := 0) rfl⟩
    clear hK K
    try simp only [PU]
    have pA' := (((pA.set 0 (.int .i64 a)).set 1 (.slice q1 m1 k1)).setOther hAB (o := 0) (.int .i64 a')).setOther hAB (o := 1) (.slice q2 m2 k2)
    have pB2 := (pB'.set 0 (.int .i64 a')).set 1 (.slice q2 m2 k2)
    have s0 := pA'.cell (i := 0) rfl
    have s1 := pA'.cell (i := 1) rfl
    have s2 := pB2.cell (i := 0) rfl
    have s3 := pB2.cell (i := 1) rfl
    have HF0 := Lib.hid f0
    refine hd_done (by kernel_rfl) ?_
    clear hHeld
    simp only [List.drop_succ_cons, List.drop_zero]
    go_wp2
    refine bodyPost_ret (v := .tuple #[.agg #[.int .i64 a, .slice q1 m1 k1], .agg #[.int .i64 a', .slice q2 m2 k2], .bool bb, .bool true]) (by simp [results, Tryz.results11, go_sem, s0, s1, s2, s3]) rfl ?_
    have l1 : w.heap.size + 1 < W3.heap.size := by have := HS3.out; omega
    have l2 : w.heap.size + 1 + 1 < W3.heap.size := by have := HS3.out; omega
    refine ⟨_, _, by rw [HBB.out.1, HBB.out.2, ← HBE.out], ⟨?_, ?_, HAP.out⟩, fset (fset (fset (fset (fstep HF5.out HF0.out) (by omega) _) (by omega) _) (by omega) _) (by omega) _⟩
    · exact (((((HOX.out.keep HF0.out).setO l1 _ _).setO l1 _ _).setO l2 _ _).setO l2 _ _).mono (by omega)
    · exact (((((HOY.out.keep HF0.out).setO l1 _ _).setO l1 _ _).setO l2 _ _).setO l2 _ _).mono (by omega)
end Go.Proofs.YtlapicgeokjpjaaGreat
