/- Contracts: the best pair of routes, the program's side: the function called with each pair. -/
import Derived.Test.YtlapicgeokjpjaaGreatBpP
namespace Go.Proofs.YtlapicgeokjpjaaGreat
open Go.RowKit Go.PlainAid

set_option maxHeartbeats 4000000 in
set_option maxRecDepth 20000 in
theorem bpClo_any (qn pn : Option Addr) (cn cp : Nat) (n : Net) (x y : LR) (bn bl bx by' : Nat) (u0 u1 u2 u3 : Value) (m : Int) (w : World) (hN : NetIn w (.agg #[.slice qn n.nodes.length cn, .slice pn n.fibers.length cp]) n) (hb : LenOk n) (ix : Ints w x.q x.fibs) (iy : Ints w y.q y.fibs) (ox : RtOk n x.fibs) (oy : RtOk n y.fibs) (lx : x.fibs.length ≤ 100) (ly : y.fibs.length ≤ 100)
    (hrn : RowAt w bn 27 [.slice qn n.nodes.length cn, .slice pn n.fibers.length cp]) (hrl : RowAt w bl 3 [.int .i64 m]) (hrx : RowAt w bx 39 [u0, u1]) (hry : RowAt w by' 39 [u2, u3]) (n1 : bx ≠ by') (n2 : bl ≠ bx) (n3 : bl ≠ by') (_sm : m = -1 ∨ (0 ≤ m ∧ m ≤ 1000000)) :
    Calls Tryz.prog 31 #[.agg #[.int .i64 x.start, .slice x.q x.fibs.length x.cap], .agg #[.int .i64 y.start, .slice y.q y.fibs.length y.cap], .pointer (some ⟨bn, 0, none⟩), .pointer (some ⟨bl, 0, none⟩), .pointer (some ⟨bx, 0, none⟩), .pointer (some ⟨by', 0, none⟩)] w fun e w' => e = .returned (.tuple #[]) ∧
      ∃ wa, Fresh w wa ∧ w' = if m < 0 ∨ lenR n.fibers x.fibs + lenR n.fibers y.fibs < m then ((((wa.setCell ⟨bx, 0, none⟩ (.int .i64 x.start)).setCell ⟨bx, 1, none⟩ (.slice x.q x.fibs.length x.cap)).setCell ⟨by', 0, none⟩ (.int .i64 y.start)).setCell ⟨by', 1, none⟩ (.slice y.q y.fibs.length y.cap)).setCell ⟨bl, 0, none⟩ (.int .i64 (lenR n.fibers x.fibs + lenR n.fibers y.fibs)) else wa := by
  obtain ⟨W2, hW2, hsz2, hf2, r1, r2⟩ := two_rows w [.int .i64 x.start, .slice x.q x.fibs.length x.cap] [.int .i64 y.start, .slice y.q y.fibs.length y.cap] 39 39
  have HF2 := Lib.hid hf2
  have HR1 := Lib.hid r1
  have HR2 := Lib.hid r2
  have HRN := Lib.hid (hrn.keep hf2)
  have HRL := Lib.hid (hrl.keep hf2)
  have HRX := Lib.hid (hrx.keep hf2)
  have HRY := Lib.hid (hry.keep hf2)
  have HW2 := Lib.hid hW2
  have hlx : bx < w.heap.size := hrx.lt
  have hly : by' < w.heap.size := hry.lt
  have hll : bl < w.heap.size := hrl.lt
  have lbx := lenR_bd (n := n) (l := x.fibs) hb
  have lby := lenR_bd (n := n) (l := y.fibs) hb
  have HLZ : Hid (∀ (z : LR), (z = x ∨ z = y) → ∀ xa : After W2, Calls Tryz.prog 32 #[.agg #[.slice qn n.nodes.length cn, .slice pn n.fibers.length cp], .agg #[.int .i64 z.start, .slice z.q z.fibs.length z.cap]] xa.w' fun e w' => e = .returned (.int .i64 (lenR n.fibers z.fibs)) ∧ Fresh xa.w' w') := by
    rintro z (rfl | rfl) xa
    · exact (lengthOf_d _ n _ _ _ _ xa.w' (hN.keep (fstep hf2 xa.h)) (ix.keep (fstep hf2 xa.h)) ox hb).mono fun e w' h => ⟨h.1, h.2.1⟩
    · exact (lengthOf_d _ n _ _ _ _ xa.w' (hN.keep (fstep hf2 xa.h)) (iy.keep (fstep hf2 xa.h)) oy hb).mono fun e w' h => ⟨h.1, h.2.1⟩
  have e0 := fun xa : After W2 => akeep ((hrn.keep hf2).cell (i := 0) rfl) xa
  have e1 := fun xa : After W2 => akeep ((hrn.keep hf2).cell (i := 1) rfl) xa
  have e2 := fun xa : After W2 => akeep (r1.cell (i := 0) rfl) xa
  have e3 := fun xa : After W2 => akeep (r1.cell (i := 1) rfl) xa
  have e4 := fun xa : After W2 => akeep (r2.cell (i := 0) rfl) xa
  have e5 := fun xa : After W2 => akeep (r2.cell (i := 1) rfl) xa
  have hadd : IntKind.i64.wrap (lenR n.fibers x.fibs + lenR n.fibers y.fibs) = lenR n.fibers x.fibs + lenR n.fibers y.fibs := by rw [IntKind.wrap_i64]; omega
  clear hN ix iy ox oy hrn hrl hrx hry hf2 r1 r2 hW2 hsz2 lbx lby
  by_cases hc : m < 0 ∨ lenR n.fibers x.fibs + lenR n.fibers y.fibs < m
  · simp only [if_pos hc]
    go_enter Tryz.func31, Tryz.ntmps31
    go_wp2
    rw [← HW2.out]
    refine wp_region_after (by kernel_rfl) (by kernel_rfl) ?_
    repeat (go_big_quiet_step ((go_at_call 32; exact after_call (HLZ.out _ (by first | exact Or.inl rfl | exact Or.inr rfl) _))))
    refine wpQuiet_nil ?_
    rintro _ ⟨xa, rfl⟩
    obtain ⟨w5, hw5⟩ : ∃ W, W = xa.w' := ⟨_, rfl⟩
    have hf5 : Fresh W2 w5 := by rw [hw5]; exact xa.h
    rw [← hw5]
    clear hw5 e0 e1 e2 e3 e4 e5
    have y0 := (HR1.out.keep hf5).cell (i := 0) rfl
    have y1 := (HR1.out.keep hf5).cell (i := 1) rfl
    have y2 := (HR2.out.keep hf5).cell (i := 0) rfl
    have y3 := (HR2.out.keep hf5).cell (i := 1) rfl
    have z0 := (HRL.out.keep hf5).cell (i := 0) rfl
    have HF5 := Lib.hid hf5
    clear hf5
    rcases (show m < 0 ∨ (¬ m < 0 ∧ lenR n.fibers x.fibs + lenR n.fibers y.fibs < m) by omega) with hm | ⟨hm, hm'⟩
    all_goals (
      go_wp2
      refine hd_start (n := 5) (S := fun w' => w'.cell? ⟨w.heap.size, 0, none⟩ = some (.int .i64 x.start) ∧ w'.cell? ⟨w.heap.size, 1, none⟩ = some (.slice x.q x.fibs.length x.cap) ∧ w'.cell? ⟨w.heap.size + 1, 0, none⟩ = some (.int .i64 y.start) ∧ w'.cell? ⟨w.heap.size + 1, 1, none⟩ = some (.slice y.q y.fibs.length y.cap)) (by kernel_rfl) (by kernel_rfl) ⟨fkeep (fdrew (frefl _)) y0, fkeep (fdrew (frefl _)) y1, fkeep (fdrew (frefl _)) y2, fkeep (fdrew (frefl _)) y3⟩ (fun hHeld => ?_)
      obtain ⟨W0, hW0⟩ : ∃ W, W = w5.drew := ⟨_, rfl⟩
      rw [← hW0] at hHeld ⊢
      have f0 : Fresh W2 W0 := by rw [hW0]; exact fdrew HF5.out
      clear hW0
      refine hd_tk (i := 0) (v := ?_) rfl ?_ ?_
      rotate_left
      · (intro w hSw; (try dsimp only at hSw); go_simp; first | done | with_reducible rfl)
      try simp only [PU]
      refine hd_tk (i := 1) (v := ?_) rfl ?_ ?_
      rotate_left
      · (intro w hSw; (try dsimp only at hSw); go_simp; first | done | with_reducible rfl)
      try simp only [PU]
      refine hd_tk (i := 2) (v := ?_) rfl ?_ ?_
      rotate_left
      · (intro w hSw; (try dsimp only at hSw); go_simp; first | done | with_reducible rfl)
      try simp only [PU]
      have px := HRX.out.keep f0
      have py := HRY.out.keep f0
      have pl := HRL.out.keep f0
      have pa := HR1.out.keep f0
      have pb := HR2.out.keep f0
      have q0 := px.cell (i := 0) rfl
      have q1 := px.cell (i := 1) rfl
      have q2 := px.frozen 0
      have q3 := px.frozen 1
      have pa' := fun u v => ((pa.setOther (show w.heap.size ≠ bx by omega) (o := 0) u).setOther (show w.heap.size ≠ bx by omega) (o := 1) v)
      have pb' := fun u v => ((pb.setOther (show w.heap.size + 1 ≠ bx by omega) (o := 0) u).setOther (show w.heap.size + 1 ≠ bx by omega) (o := 1) v)
      refine hd_one (i := 3) rfl (by kernel_rfl) (by kernel_rfl) (fun K hK => ?_)
      (go_simp)
      refine hK.out _ _ ?_ (fun hHeld => ?_)
      · exact ⟨(pa' _ _).cell (i := 0) rfl, (pa' _ _).cell (i := 1) rfl, (pb' _ _).cell (i := 0) rfl, (pb' _ _).cell (i := 1) rfl⟩
      clear hK K
      try simp only [PU]
      have hn : by' ≠ bx := fun h => n1 h.symm
      have py' := fun u v => ((py.setOther hn (o := 0) u).setOther hn (o := 1) v)
      have pl' := fun u v => ((pl.setOther n2 (o := 0) u).setOther n2 (o := 1) v)
      have r0 := (py' (.int .i64 x.start) (.slice x.q x.fibs.length x.cap)).cell (i := 0) rfl
      have r1 := (py' (.int .i64 x.start) (.slice x.q x.fibs.length x.cap)).cell (i := 1) rfl
      have r2 := (py' (.int .i64 x.start) (.slice x.q x.fibs.length x.cap)).frozen 0
      have r3 := (py' (.int .i64 x.start) (.slice x.q x.fibs.length x.cap)).frozen 1
      have pa'' := fun u v u' v' => (((pa' u v).setOther (show w.heap.size ≠ by' by omega) (o := 0) u').setOther (show w.heap.size ≠ by' by omega) (o := 1) v')
      have pb'' := fun u v u' v' => (((pb' u v).setOther (show w.heap.size + 1 ≠ by' by omega) (o := 0) u').setOther (show w.heap.size + 1 ≠ by' by omega) (o := 1) v')
      have pl'' := fun u v u' v' => (((pl' u v).setOther n3 (o := 0) u').setOther n3 (o := 1) v')
      refine hd_one (i := 4) rfl (by kernel_rfl) (by kernel_rfl) (fun K hK => ?_)
      (go_simp)
      refine hK.out _ _ ?_ (fun hHeld => ?_)
      · exact ⟨(pa'' _ _ _ _).cell (i := 0) rfl, (pa'' _ _ _ _).cell (i := 1) rfl, (pb'' _ _ _ _).cell (i := 0) rfl, (pb'' _ _ _ _).cell (i := 1) rfl⟩
      clear hK K
      try simp only [PU]
      have s0 := (pl'' (.int .i64 x.start) (.slice x.q x.fibs.length x.cap) (.int .i64 y.start) (.slice y.q y.fibs.length y.cap)).cell (i := 0) rfl
      have s1 := (pl'' (.int .i64 x.start) (.slice x.q x.fibs.length x.cap) (.int .i64 y.start) (.slice y.q y.fibs.length y.cap)).frozen 0
      have HF0 := Lib.hid f0
      refine hd_done (by kernel_rfl) ?_
      clear hHeld
      simp only [List.drop_succ_cons, List.drop_zero]
      go_wp2
      refine bodyPost_end (results_none rfl _ _ _) rfl ?_
      exact ⟨rfl, W0, fstep HF2.out HF0.out, rfl⟩)
  · simp only [if_neg hc]
    have hm0 : ¬ m < 0 := fun h => hc (Or.inl h)
    have hm1 : ¬ lenR n.fibers x.fibs + lenR n.fibers y.fibs < m := fun h => hc (Or.inr h)
    have z0 := fun xa : After W2 => akeep (HRL.out.cell (i := 0) rfl) xa
    go_enter Tryz.func31, Tryz.ntmps31
    go_wp2
    rw [← HW2.out]
    refine wp_region_after (by kernel_rfl) (by kernel_rfl) ?_
    repeat (go_big_quiet_step ((go_at_call 32; exact after_call (HLZ.out _ (by first | exact Or.inl rfl | exact Or.inr rfl) _))))
    refine wpQuiet_nil ?_
    rintro _ ⟨xa, rfl⟩
    go_wp2
    refine bodyPost_end (results_none rfl _ _ _) rfl ?_
    exact ⟨rfl, fstep HF2.out xa.h⟩
end Go.Proofs.YtlapicgeokjpjaaGreat
