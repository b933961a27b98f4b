/- Contracts: the number of pairs of routes, the program's side. -/
import Derived.Test.YtlapicgeokjpjaaGreatPr
namespace Go.Proofs.YtlapicgeokjpjaaGreat
open Go.RowKit Go.PlainAid

def okK (n : Net) (s t k : Int) : Bool := okA n s t && kindB k
/-- The pairs of routes, by their places. -/
def pairsF (n : Net) (s t k : Int) : List (Nat × Nat) := toI (dP n s (allR n s t) k) (allR n s t).length (allR n s t).length
def countF (n : Net) (s t k : Int) : Int × Bool := if okK n s t k then (((pairsF n s t k).length : Int), true) else (0, false)
theorem rowI_len (d : Nat → Nat → Bool) (i k : Nat) : (rowI d i k).length ≤ k := by
  unfold rowI
  rw [List.length_map]
  exact Nat.le_trans (List.length_filter_le _ _) (by simp)
theorem toI_len (d : Nat → Nat → Bool) (N i : Nat) : (toI d N i).length ≤ i * N := by
  induction i with
  | zero => simp [toI]
  | succ i ih =>
    rw [toI_succ, List.length_append]
    have := rowI_len d i N
    rw [Nat.succ_mul]; omega
theorem okA_len {n : Net} {s t : Int} (h : okA n s t = true) : (allR n s t).length ≤ 200 ∧ allA n s t = allR n s t := by
  refine ⟨?_, by unfold allA; rw [h]; rfl⟩
  unfold okA at h
  simp only [Bool.and_eq_true, decide_eq_true_eq] at h
  exact h.2
theorem pairsF_len {n : Net} {s t k : Int} (h : okA n s t = true) : (pairsF n s t k).length ≤ 40000 := by
  have h1 := (okA_len h).1
  refine Nat.le_trans (toI_len _ _ _) ?_
  exact Nat.le_trans (Nat.mul_le_mul h1 h1) (by decide)
theorem kindB_in {k : Int} (h : kindB k = true) : 1 ≤ k ∧ k ≤ 3 := inB_iff.1 h
theorem rts_good {n : Net} {s t : Int} {l : List LR} (h : l.map LR.val = allR n s t) : ∀ x ∈ l, x.start = s ∧ RtGood n s t x.fibs := fun x hx => good_mem (by rw [← h]; exact List.mem_map_of_mem (f := LR.val) hx)
def OutF (n : Net) (s t k : Int) (w : World) (e : Ending) (w' : World) : Prop := ∃ (V : Value) (l : List LR), e = .returned (.tuple #[V, .bool (okK n s t k)]) ∧ Rts w' w.heap.size V l ∧ l.map LR.val = allA n s t ∧ Fresh w w'
set_option maxHeartbeats 2000000 in
theorem routesFor_any (v : Value) (n : Net) (s t k : Int) (w : World) (h : NetIn w v n) :
    Calls Tryz.prog 29 #[v, .int .i64 s, .int .i64 t, .int .i64 k] w (OutF n s t k w) := by
  have HN := Lib.hid h
  obtain ⟨qn, cn, pn, cp, rfl, _, _, n1, _, _, _, _⟩ := h
  obtain ⟨W2, hW2⟩ : ∃ W, W = w.alloc (.cells #[.slice qn n.nodes.length cn, .slice pn n.fibers.length cp] 27) := ⟨_, rfl⟩
  have hf2 : Fresh w W2 := by rw [hW2]; exact fnew (frefl _) _
  have HF2 := Lib.hid hf2
  have HW2 := Lib.hid hW2
  have HAL := Lib.hid (implAllRoutes_any _ n s t W2 (HN.out.keep hf2))
  have HDEF : Hid (okK n s t k = (okA n s t && kindB k)) := rfl
  clear hf2 hW2
  cases hok : okA n s t
  · rw [hok] at HDEF
    go_enter Tryz.func29, Tryz.ntmps29
    go_wp2_with fail
    rw [← HW2.out]
    refine (HAL.out).mono ?_
    rintro e w3 ⟨V, l, rfl, hr, hv, hf⟩
    have HF := Lib.hid (fstep HF2.out hf)
    have HRT := Lib.hid (show Rts w3 w.heap.size V l from ⟨owns_mono hr.row HF2.out.size, fun x hx => (hr.fib x hx).mono HF2.out.size, hr.dist, hr.cap⟩)
    have HV := Lib.hid hv
    clear hr hv hf
    rw [hok]
    go_wp2
    go_ret2
    exact ⟨V, l, by rw [HDEF.out]; rfl, HRT.out, HV.out, HF.out⟩
  · rw [hok] at HDEF
    have HKD := Lib.hid (isKind_any k)
    go_enter Tryz.func29, Tryz.ntmps29
    go_wp2_with fail
    rw [← HW2.out]
    refine (HAL.out).mono ?_
    rintro e w3 ⟨V, l, rfl, hr, hv, hf⟩
    have HF := Lib.hid (fstep HF2.out hf)
    have HRT := Lib.hid (show Rts w3 w.heap.size V l from ⟨owns_mono hr.row HF2.out.size, fun x hx => (hr.fib x hx).mono HF2.out.size, hr.dist, hr.cap⟩)
    have HV := Lib.hid hv
    clear hr hv hf
    rw [hok]
    go_wp2_with (go_at_call 23; refine (HKD.out _).mono ?_; rintro e w4 ⟨rfl, rfl⟩)
    go_ret2
    exact ⟨V, l, by rw [HDEF.out]; rfl, HRT.out, HV.out, HF.out⟩
/-- The counting call's own variable. -/
def InvC (w0 : World) (bx : Nat) (L : List (Nat × Nat)) (w : World) : Prop := Fresh w0 w ∧ RowAt w bx 3 [.int .i64 (wrap64 (L.length : Int))]
set_option maxHeartbeats 2000000 in
theorem countClo_any (w0 : World) (bx : Nat) (g0 : w0.heap.size ≤ bx) (L : List (Nat × Nat)) (i k : Nat) (x y : LR) (w : World) (h : InvC w0 bx L w) :
    Calls Tryz.prog 33 #[.agg #[.int .i64 x.start, .slice x.q x.fibs.length x.cap], .agg #[.int .i64 y.start, .slice y.q y.fibs.length y.cap], .pointer (some ⟨bx, 0, none⟩)] w fun e w' => e = .returned (.tuple #[]) ∧ InvC w0 bx (L ++ [(i, k)]) w' ∧ Kp bx (bx + 1) w w' := by
  obtain ⟨hf, hr⟩ := h
  obtain ⟨W2, hW2, hsz2, hf2, r1, r2⟩ := two_rows w [.int .i64 x.start, .slice x.q x.fibs.length x.cap] [.int .i64 y.start, .slice y.q y.fibs.length y.cap] 39 39
  have hr2 := hr.keep hf2
  have c0 := hr2.cell (i := 0) rfl
  have z0 := hr2.frozen 0
  rw [hW2] at c0 z0
  have HR2 := Lib.hid hr2
  have HF2 := Lib.hid hf2
  have HF := Lib.hid hf
  have HW2 := Lib.hid hW2
  have hw1 : IntKind.i64.wrap (wrap64 (L.length : Int) + 1) = wrap64 ((L.length : Int) + 1) := by rw [IntKind.wrap_i64]; unfold wrap64; omega
  clear hr hr2 hf2 hf hW2 hsz2 r1 r2
  go_enter Tryz.func33, Tryz.ntmps33
  go_wp2
  refine bodyPost_end (results_none rfl _ _ _) rfl ?_
  rw [← HW2.out]
  refine ⟨rfl, ⟨fset (fstep HF.out HF2.out) g0 _, ?_⟩, fun g t cs hg hne => (hg.keep HF2.out).setOther (by omega) _⟩
  rw [List.length_append]
  exact HR2.out.set 0 _
theorem enters_count (args : Array Value) (w : World) : (callFunc 33 args).run Tryz.prog w = .ok (.enter 33 args) w := enters_of Tryz.func33 (by kernel_rfl) rfl args w
set_option maxHeartbeats 2000000 in
set_option maxRecDepth 20000 in
theorem implCountPairs_any (v : Value) (n : Net) (s t k : Int) (w : World) (h : NetIn w v n) :
    Calls Tryz.prog 12 #[v, .int .i64 s, .int .i64 t, .int .i64 k] w fun e w' => e = .returned (.tuple #[.int .i64 (countF n s t k).1, .bool (countF n s t k).2]) ∧ Fresh w w' := by
  have hmf : ∀ (fn : Fn) (first cap : Array Value) (w : World), (Instr.makeFunc fn first cap).run Tryz.prog w = .ok (.func fn first cap) w := fun _ _ _ _ => rfl
  have HN := Lib.hid h
  obtain ⟨qn, cn, pn, cp, rfl, _, _, n1, _, _, _, _⟩ := h
  obtain ⟨W2, hW2⟩ : ∃ W, W = w.alloc (.cells #[.slice qn n.nodes.length cn, .slice pn n.fibers.length cp] 27) := ⟨_, rfl⟩
  have hf2 : Fresh w W2 := by rw [hW2]; exact fnew (frefl _) _
  have hr2 : RowAt W2 w.heap.size 27 [.slice qn n.nodes.length cn, .slice pn n.fibers.length cp] := by rw [hW2]; exact RowAt.new _ _ _
  have HF2 := Lib.hid hf2
  have HR2 := Lib.hid hr2
  have HW2 := Lib.hid hW2
  have HRF := Lib.hid (routesFor_any _ n s t k W2 (HN.out.keep hf2))
  clear hf2 hr2 hW2
  cases hok : okK n s t k
  · have HDEF : Hid (countF n s t k = (0, false)) := by show _ = _; unfold countF; rw [hok]; rfl
    go_enter Tryz.func12, Tryz.ntmps12
    go_wp2_with fail
    rw [← HW2.out]
    refine (HRF.out).mono ?_
    rintro e w3 ⟨V, l, rfl, hr, hv, hf⟩
    have HF := Lib.hid (fstep HF2.out hf)
    clear hr hv hf
    rw [hok]
    go_wp2
    go_ret2
    exact ⟨by rw [HDEF.out]; (first | done | rfl), HF.out⟩
  · have HDEF : Hid (countF n s t k = (((pairsF n s t k).length : Int), true)) := by show _ = _; unfold countF; rw [hok]; rfl
    have hok2 : okA n s t = true ∧ kindB k = true := by unfold okK at hok; simpa using hok
    have HOK := Lib.hid hok2
    go_enter Tryz.func12, Tryz.ntmps12
    go_wp2_with fail
    rw [← HW2.out]
    refine (HRF.out).mono ?_
    rintro e w3 ⟨V, l, rfl, hr, hv, hf⟩
    rw [hok]
    obtain ⟨p, c, rfl, _, _, _⟩ := owns_cap hr.row
    have HF := Lib.hid (fstep HF2.out hf)
    have hval : l.map LR.val = allR n s t := by rw [hv, (okA_len HOK.out.1).2]
    have hll : l.length ≤ 200 := by
      have := congrArg List.length hval
      rw [List.length_map] at this
      rw [this]; exact (okA_len HOK.out.1).1
    obtain ⟨W4, hW4⟩ : ∃ W, W = w3.alloc (.cells #[.int .i64 0] 3) := ⟨_, rfl⟩
    have hf4 : Fresh w3 W4 := by rw [hW4]; exact fnew (frefl _) _
    have hr4 : RowAt W4 w3.heap.size 3 [.int .i64 0] := by rw [hW4]; exact RowAt.new _ _ _
    have hs4 : w3.heap.size + 1 ≤ W4.heap.size := by rw [hW4]; simp
    have HW4 := Lib.hid hW4
    have hg3 : w.heap.size ≤ w3.heap.size := HF.out.size
    have c0 := fun o : Obj => fkeep (fnew (frefl w3) o) ((HR2.out.keep hf).cell (i := 0) rfl)
    have c1 := fun o : Obj => fkeep (fnew (frefl w3) o) ((HR2.out.keep hf).cell (i := 1) rfl)
    have HPA := Lib.hid (pairs_any w w3 w3.heap.size (w3.heap.size + 1) W2.heap.size (InvC w w3.heap.size) 33 #[.pointer (some ⟨w3.heap.size, 0, none⟩)] _ n s t k p c l HN.out (pairB_in (okA_pair HOK.out.1)).1 (pairB_in (okA_pair HOK.out.1)).2.1 (kindB_in HOK.out.2) (rts_good hval) (by omega) enters_count
      (fun L w h => h.1) (fun L a b h hb => ⟨fstep h.1 hb, h.2.keep hb⟩) hr (Nat.le_refl _) (fun L i k x y w' _ _ _ hi _ => countClo_any w w3.heap.size hg3 L i k x y w' hi) W4 ⟨fstep HF.out hf4, by rw [show wrap64 ((([] : List (Nat × Nat)).length : Nat) : Int) = 0 by rw [List.length_nil]; unfold wrap64; omega]; exact hr4⟩ (Kp.fresh hf4) hs4)
    rw [hval] at HPA
    have HLEN : Hid (l.length = (allR n s t).length) := by show _ = _; rw [← hval]; simp
    rw [HLEN.out] at HPA
    have HCT : Hid (pairsF n s t k = toI (dP n s (allR n s t) k) (allR n s t).length (allR n s t).length) := rfl
    rw [← HCT.out, ← HLEN.out] at HPA
    have HPL := Lib.hid (pairsF_len (k := k) HOK.out.1)
    clear hr hv hf hval hf4 hr4 hW4 hs4 hok2
    go_wp2_with fail
    rw [← HW4.out]
    refine (HPA.out).mono ?_
    rintro e w5 ⟨rfl, hi5, hk5⟩
    have e0 := hi5.2.cell (i := 0) rfl
    have HF5 := Lib.hid hi5.1
    clear hi5 hk5 c0 c1
    go_wp2
    go_ret2
    refine ⟨?_, HF5.out⟩
    rw [HDEF.out]
    show Ending.returned (.tuple #[.int .i64 (wrap64 ((pairsF n s t k).length : Int)), .bool true]) = _
    have : wrap64 ((pairsF n s t k).length : Int) = ((pairsF n s t k).length : Int) := by have := HPL.out; unfold wrap64; omega
    rw [this]
end Go.Proofs.YtlapicgeokjpjaaGreat
