/- Contracts: a network with two nodes and a kind is drawn, the reference's side. -/
import Derived.Test.YtlapicgeokjpjaaGreatAn
namespace Go.Proofs.YtlapicgeokjpjaaGreat
open Go.RowKit Go.PlainAid

theorem an_net {w' : World} {b : Nat} {np : Option Addr} {N nc : Nat} {fp : Option Addr} {L : List Fib} {fc : Nat} {l : List ByteArray} (hN : N = l.length) (h16 : N ≤ 16) (ho : w'.ownsRow b 9 1 (.slice np N nc) N (l.map .string)) (hf : w'.ownsRow b 76 4 (.slice fp L.length fc) L.length (L.flatMap fibC)) (h20 : L.length ≤ 20) (hz : ∀ s ∈ l, s.size ≤ 16) :
    NetIn w' (.agg #[.slice np N nc, .slice fp L.length fc]) ⟨l, L⟩ := by
  subst hN
  obtain ⟨p1, c1, e1, h1, h2, h3⟩ := owns_cap ho
  obtain ⟨p2, c2, e2, g1, g2, g3⟩ := owns_cap hf
  cases e1
  cases e2
  exact ⟨_, _, _, _, rfl, h1.cells, g1.cells, by dsimp only; omega, by dsimp only; omega, h2, h3, fun s hs => Nat.le_trans (hz s hs) (by decide)⟩
/-- A network whose rows are the call's own. -/
def NetOw (w : World) (base : Nat) (v : Value) (n : Net) : Prop := ∃ (np : Option Addr) (nc : Nat) (fp : Option Addr) (fc : Nat), v = .agg #[.slice np n.nodes.length nc, .slice fp n.fibers.length fc] ∧ w.ownsRow base 9 1 (.slice np n.nodes.length nc) n.nodes.length (n.nodes.map .string) ∧ w.ownsRow base 76 4 (.slice fp n.fibers.length fc) n.fibers.length (n.fibers.flatMap fibC) ∧ n.nodes.length ≤ 16 ∧ n.fibers.length ≤ 20 ∧ ∀ s ∈ n.nodes, s.size ≤ 16
theorem NetOw.net {w : World} {base : Nat} {v : Value} {n : Net} (h : NetOw w base v n) : NetIn w v n := by
  obtain ⟨np, nc, fp, fc, rfl, h1, h2, h3, h4, h5⟩ := h
  exact an_net rfl h3 h1 h2 h4 h5
theorem NetOw.keep {w w' : World} {base : Nat} {v : Value} {n : Net} (h : NetOw w base v n) (hb : Fresh w w') : NetOw w' base v n := by
  obtain ⟨np, nc, fp, fc, hv, h1, h2, r⟩ := h
  exact ⟨np, nc, fp, fc, hv, ownsRow_keep h1 hb, ownsRow_keep h2 hb, r⟩
theorem NetOw.mono {w : World} {b b' : Nat} {v : Value} {n : Net} (h : NetOw w b v n) (hb : b' ≤ b) : NetOw w b' v n := by
  obtain ⟨np, nc, fp, fc, hv, h1, h2, r⟩ := h
  exact ⟨np, nc, fp, fc, hv, owns_mono h1 hb, owns_mono h2 hb, r⟩
theorem NetOw.setO {w : World} {base g : Nat} {v : Value} {n : Net} {cs : List Value} (h : NetOw w base v n) (hr : RowAt w g 27 cs) (i : Nat) (u : Value) : NetOw (w.setCell ⟨g, i, none⟩ u) base v n := by
  obtain ⟨np, nc, fp, fc, hv, h1, h2, r⟩ := h
  exact ⟨np, nc, fp, fc, hv, owns_setO h1 hr (by decide) i, owns_setO h2 hr (by decide) i, r⟩
theorem NetOw.grown {a b : World} {base r : Nat} {v : Value} {n : Net} (h : NetOw a base v n) (k : a.grownBy b (some r)) (hr : r < base) : NetOw b base v n := by
  obtain ⟨np, nc, fp, fc, hv, h1, h2, rr⟩ := h
  exact ⟨np, nc, fp, fc, hv, owns_grown h1 k hr, owns_grown h2 k hr, rr⟩
/-- A network and three numbers are handed back. -/
def OutDp (w : World) (e : Ending) (w' : World) : Prop := ∃ (v : Value) (n : Net) (a b k : Int), e = .returned (.tuple #[v, .int .i64 a, .int .i64 b, .int .i64 k]) ∧ NetOw w' w.heap.size v n ∧ Fresh w w'
def OutDk (w : World) (e : Ending) (w' : World) : Prop := ∃ (v : Value) (n : Net) (k : Int), e = .returned (.tuple #[v, .int .i64 k]) ∧ NetOw w' w.heap.size v n ∧ Fresh w w'
set_option maxHeartbeats 4000000 in
set_option maxRecDepth 20000 in
theorem drawCountPairs_any (p : Option Addr) (cap : Nat) (xs : List Int) (w : World) (hC : CodeAt w p xs) : Calls Tryz.prog 28 #[.slice p xs.length cap] w (OutDp w) := by
  have HX := Lib.hid hC
  obtain ⟨W1, hW1⟩ : ∃ W, W = w.alloc (.cells #[.slice none 0 0, .slice none 0 0] 27) := ⟨_, rfl⟩
  have hf1 : Fresh w W1 := by rw [hW1]; exact fnew (frefl _) _
  have hz1 : RowAt W1 w.heap.size 27 [.slice none 0 0, .slice none 0 0] := by rw [hW1]; exact RowAt.new _ _ _
  have hs1 : W1.heap.size = w.heap.size + 1 := by rw [hW1]; simp
  obtain ⟨r, hr⟩ : ∃ r, r = w.heap.size + 1 := ⟨_, rfl⟩
  obtain ⟨W2, hW2⟩ : ∃ W, W = W1.alloc (.cells #[.slice p xs.length cap, .int .i64 0, .int .u64 0] 53) := ⟨_, rfl⟩
  have hf2 : Fresh W1 W2 := by rw [hW2]; exact fnew (frefl _) _
  have hc2 : Cur W2 r (.slice p xs.length cap) 0 := ⟨0, by rw [hW2, hr, ← hs1]; exact RowAt.new _ _ _⟩
  have HF2 := Lib.hid (fstep hf1 hf2)
  have HZ2 := Lib.hid (hz1.keep hf2)
  have HC2 := Lib.hid hc2
  have HW1 := Lib.hid hW1
  have HW2 := Lib.hid hW2
  have HR := Lib.hid hr
  have hrw : w.heap.size < r := by omega
  have hr2 : r < W2.heap.size := by rw [hW2]; simp; omega
  clear hC hf1 hz1 hf2 hc2 hW1 hW2 hr
  go_enter Tryz.func28, Tryz.ntmps28
  go_wp2_with fail
  rw [← HW1.out, ← HW2.out, ← HR.out]
  refine (anyNetwork_any HX.out HF2.out (by omega) (by omega) (by omega) HC2.out).mono ?_
  rintro e w3 ⟨np, N, nc, fp, L, fc, l, n3, rfl, hN, h16, ho, hfo, h20, -, a3, b3, hc3, hg3, hz⟩
  have f3 := freshGrown HF2.out hg3 (by omega)
  have HZ3 := Lib.hid (HZ2.out.grown hg3 (by omega))
  have HNZ := Lib.hid hz
  have HNE := Lib.hid hN
  clear hN
  have HO3 := Lib.hid ho
  have HP3 := Lib.hid hfo
  have hs3 : r < w3.heap.size := by have := hg3.size; omega
  clear ho hfo hz hg3
  obtain ⟨bN, hbN⟩ : ∃ b, b = w3.heap.size := ⟨_, rfl⟩
  obtain ⟨W4, hW4⟩ : ∃ W, W = w3.alloc (.cells #[.slice np N nc, .slice fp L.length fc] 27) := ⟨_, rfl⟩
  have hf4 : Fresh w3 W4 := by rw [hW4]; exact fnew (frefl _) _
  have HB4 : Hid (RowAt W4 bN 27 [.slice np N nc, .slice fp L.length fc]) := by rw [hW4, hbN]; exact RowAt.new _ _ _
  have HF4 := Lib.hid (fstep f3 hf4)
  have HC4 := Lib.hid (hc3.keep hf4)
  have HZ4 := Lib.hid (HZ3.out.keep hf4)
  have HO4 := Lib.hid (ownsRow_keep HO3.out hf4)
  have HP4 := Lib.hid (ownsRow_keep HP3.out hf4)
  have hbr : bN ≠ r := by omega
  have hbz : bN ≠ w.heap.size := by omega
  have c0 := HB4.out.cell (i := 0) rfl
  have c1 := HB4.out.cell (i := 1) rfl
  have hN16 : N ≤ 64 := by omega
  clear hf4 f3 hc3 HO3 HP3 HZ3
  go_wp2_with fail
  rw [← hbN, ← hW4]
  refine (ends_any HX.out HF4.out (by omega) (by omega) (by omega) HC4.out np fp N nc L.length fc hN16).mono ?_
  rintro e w5 ⟨x5, y5, n5, rfl, a5, b5, hc5, hg5⟩
  have HF5 := Lib.hid (freshGrown HF4.out hg5 (by omega))
  have HC5 := Lib.hid hc5
  have HZ5 := Lib.hid (HZ4.out.grown hg5 (by omega))
  have HB5 := Lib.hid (HB4.out.grown hg5 hbr)
  have HO5 := Lib.hid (owns_grown HO4.out hg5 hr2)
  have HP5 := Lib.hid (owns_grown HP4.out hg5 hr2)
  clear hc5 hg5 c0 c1 HO4 HP4 HB4 HZ4 HC4 hW4 hbN
  go_upto_region 4 with fail
  have c0 := HB5.out.cell (i := 0) rfl
  have c1 := HB5.out.cell (i := 1) rfl
  refine hd_start (n := 8) (S := fun w' => w'.cell? ⟨bN, 0, none⟩ = some (.slice np N nc) ∧ w'.cell? ⟨bN, 1, none⟩ = some (.slice fp L.length fc)) (by kernel_rfl) (by kernel_rfl) ⟨fkeep (fdrew (frefl _)) c0, fkeep (fdrew (frefl _)) c1⟩ (fun hHeld => ?_)
  obtain ⟨d0, hd0⟩ : ∃ W, W = w5.drew := ⟨_, rfl⟩
  rw [← hd0] at hHeld ⊢
  have hfd : Fresh w5 d0 := by rw [hd0]; exact fdrew (frefl _)
  clear hd0 c0 c1
  refine hd_tk (i := 0) (v := ?_) rfl ?_ ?_
  rotate_left
  · (intro w hSw; (try dsimp only at hSw); go_simp; first | done | with_reducible rfl)
  try simp only [PU]
  refine hd_tk (i := 1) (v := ?_) rfl ?_ ?_
  rotate_left
  · (intro w hSw; (try dsimp only at hSw); go_simp; first | done | with_reducible rfl)
  try simp only [PU]
  refine hd_tk (i := 2) (v := ?_) rfl ?_ ?_
  rotate_left
  · (intro w hSw; (try dsimp only at hSw); go_simp; first | done | with_reducible rfl)
  try simp only [PU]
  refine hd_tk (i := 3) (v := ?_) rfl ?_ ?_
  rotate_left
  · (intro w hSw; (try dsimp only at hSw); go_simp; first | done | with_reducible rfl)
  try simp only [PU]
  refine hd_one (i := 4) rfl (by kernel_rfl) (by kernel_rfl) (fun K hK => ?_)
  go_simp
  go_at_call 21
  refine (kind7_any HX.out (fstep HF5.out hfd) (by omega) (by omega) (by omega) (HC5.out.keep hfd)).mono ?_
  rintro e w6 ⟨k6, n6, -, rfl, a6, b6, hc6, hg6⟩
  have hb6 := (HB5.out.keep hfd).grown hg6 hbr
  have HZ6 := Lib.hid ((HZ5.out.keep hfd).grown hg6 (by omega))
  have HO6 := Lib.hid (owns_grown (ownsRow_keep HO5.out hfd) hg6 hr2)
  have HP6 := Lib.hid (owns_grown (ownsRow_keep HP5.out hfd) hg6 hr2)
  have HF6 := Lib.hid (freshGrown (fstep HF5.out hfd) hg6 (by omega))
  clear hc6 hg6
  go_wp2_with fail
  refine hK.out _ _ ?_ (fun hHeld => ?_)
  · exact ⟨hb6.cell (i := 0) rfl, hb6.cell (i := 1) rfl⟩
  clear hK K
  try simp only [PU]
  have z0 := HZ6.out.cell (i := 0) rfl
  have z1 := HZ6.out.cell (i := 1) rfl
  have y0 := HZ6.out.frozen 0
  have y1 := HZ6.out.frozen 1
  have hfin := (HZ6.out.set 0 (.slice np N nc)).set 1 (.slice fp L.length fc)
  have k0 := hfin.cell (i := 0) rfl
  have k1 := hfin.cell (i := 1) rfl
  have HO7 := Lib.hid (owns_setO (u := .slice fp L.length fc) (owns_setO (u := .slice np N nc) HO6.out HZ6.out (by decide) 0) (HZ6.out.set 0 _) (by decide) 1)
  have HP7 := Lib.hid (owns_setO (u := .slice fp L.length fc) (owns_setO (u := .slice np N nc) HP6.out HZ6.out (by decide) 0) (HZ6.out.set 0 _) (by decide) 1)
  have hb7 := (hb6.setOther (o := 0) hbz (.slice np N nc)).setOther (o := 1) hbz (.slice fp L.length fc)
  have s0 := hb7.cell (i := 0) rfl
  have s1 := hb7.cell (i := 1) rfl
  clear hfin hb6 hb7
  refine hd_one (i := 5) rfl (by kernel_rfl) (by kernel_rfl) (fun K hK => ?_)
  go_simp
  refine hK.out _ _ ?_ (fun hHeld => ?_)
  · exact ⟨s0, s1⟩
  clear hK K
  try simp only [PU]
  refine hd_tk (i := 6) (v := ?_) rfl ?_ ?_
  rotate_left
  · (intro w hSw; (try dsimp only at hSw); go_simp; first | done | with_reducible rfl)
  try simp only [PU]
  refine hd_tk (i := 7) (v := ?_) rfl ?_ ?_
  rotate_left
  · (intro w hSw; (try dsimp only at hSw); go_simp; first | done | with_reducible rfl)
  try simp only [PU]
  refine hd_done (by kernel_rfl) ?_
  clear hHeld
  simp only [List.drop_succ_cons, List.drop_zero]
  go_wp2
  refine bodyPost_ret (v := .tuple #[.agg #[.slice np N nc, .slice fp L.length fc], .int .i64 x5, .int .i64 y5, .int .i64 k6]) (by simp [results, Tryz.results28, go_sem, k0, k1]) rfl ?_
  have hne := HNE.out
  subst hne
  exact ⟨_, ⟨l, L⟩, x5, y5, k6, rfl, ⟨np, nc, fp, fc, rfl, owns_mono HO7.out HF2.out.size, owns_mono HP7.out HF2.out.size, h16, h20, HNZ.out⟩, fset (fset HF6.out (Nat.le_refl _) _) (Nat.le_refl _) _⟩
set_option maxHeartbeats 4000000 in
set_option maxRecDepth 20000 in
theorem drawBestPair_any (p : Option Addr) (cap : Nat) (xs : List Int) (w : World) (hC : CodeAt w p xs) : Calls Tryz.prog 10 #[.slice p xs.length cap] w (OutDp w) := by
  obtain ⟨W1, hW1⟩ : ∃ W, W = w.alloc (.cells #[.slice none 0 0, .slice none 0 0] 27) := ⟨_, rfl⟩
  have hf1 : Fresh w W1 := by rw [hW1]; exact fnew (frefl _) _
  have HZ1 : Hid (RowAt W1 w.heap.size 27 [.slice none 0 0, .slice none 0 0]) := by rw [hW1]; exact RowAt.new _ _ _
  have HD := Lib.hid (drawCountPairs_any p cap xs W1 ⟨hC.cells.keep hf1, hC.bytes, hC.len⟩)
  have HF1 := Lib.hid hf1
  have HW1 := Lib.hid hW1
  clear hf1 hW1 hC
  go_enter Tryz.func10, Tryz.ntmps10
  go_wp2_with fail
  rw [← HW1.out]
  refine (HD.out).mono ?_
  rintro e w2 ⟨v, n, a, b, k, rfl, hn, hf2⟩
  have HF2 := Lib.hid (fstep HF1.out hf2)
  have HN2 := Lib.hid hn
  have HZ2 := Lib.hid (HZ1.out.keep hf2)
  obtain ⟨q, c, p', d, rfl, _⟩ := hn
  have z0 := HZ2.out.cell (i := 0) rfl
  have z1 := HZ2.out.cell (i := 1) rfl
  have y0 := HZ2.out.frozen 0
  have y1 := HZ2.out.frozen 1
  have hfin := (HZ2.out.set 0 (.slice q n.nodes.length c)).set 1 (.slice p' n.fibers.length d)
  have k0 := hfin.cell (i := 0) rfl
  have k1 := hfin.cell (i := 1) rfl
  have HN3 := Lib.hid (((HN2.out.mono HF1.out.size).setO HZ2.out 0 (.slice q n.nodes.length c)).setO (HZ2.out.set 0 _) 1 (.slice p' n.fibers.length d))
  clear hfin hf2
  go_wp2
  refine bodyPost_ret (v := .tuple #[.agg #[.slice q n.nodes.length c, .slice p' n.fibers.length d], .int .i64 a, .int .i64 b, .int .i64 k]) (by simp [results, Tryz.results10, go_sem, k0, k1]) rfl ?_
  exact ⟨_, n, a, b, k, rfl, HN3.out, fset (fset HF2.out (Nat.le_refl _) _) (Nat.le_refl _) _⟩
set_option maxHeartbeats 4000000 in
set_option maxRecDepth 20000 in
theorem drawUnprotected_any (p : Option Addr) (cap : Nat) (xs : List Int) (w : World) (hC : CodeAt w p xs) : Calls Tryz.prog 6 #[.slice p xs.length cap] w (OutDk w) := by
  have HX := Lib.hid hC
  obtain ⟨W1, hW1⟩ : ∃ W, W = w.alloc (.cells #[.slice none 0 0, .slice none 0 0] 27) := ⟨_, rfl⟩
  have hf1 : Fresh w W1 := by rw [hW1]; exact fnew (frefl _) _
  have hz1 : RowAt W1 w.heap.size 27 [.slice none 0 0, .slice none 0 0] := by rw [hW1]; exact RowAt.new _ _ _
  have hs1 : W1.heap.size = w.heap.size + 1 := by rw [hW1]; simp
  obtain ⟨r, hr⟩ : ∃ r, r = w.heap.size + 1 := ⟨_, rfl⟩
  obtain ⟨W2, hW2⟩ : ∃ W, W = W1.alloc (.cells #[.slice p xs.length cap, .int .i64 0, .int .u64 0] 53) := ⟨_, rfl⟩
  have hf2 : Fresh W1 W2 := by rw [hW2]; exact fnew (frefl _) _
  have hc2 : Cur W2 r (.slice p xs.length cap) 0 := ⟨0, by rw [hW2, hr, ← hs1]; exact RowAt.new _ _ _⟩
  have HF2 := Lib.hid (fstep hf1 hf2)
  have HZ2 := Lib.hid (hz1.keep hf2)
  have HC2 := Lib.hid hc2
  have HW1 := Lib.hid hW1
  have HW2 := Lib.hid hW2
  have HR := Lib.hid hr
  have hrw : w.heap.size < r := by omega
  have hr2 : r < W2.heap.size := by rw [hW2]; simp; omega
  clear hC hf1 hz1 hf2 hc2 hW1 hW2 hr
  go_enter Tryz.func6, Tryz.ntmps6
  go_wp2_with fail
  rw [← HW1.out, ← HW2.out, ← HR.out]
  refine (anyNetwork_any HX.out HF2.out (by omega) (by omega) (by omega) HC2.out).mono ?_
  rintro e w3 ⟨np, N, nc, fp, L, fc, l, n3, rfl, hN, h16, ho, hfo, h20, -, a3, b3, hc3, hg3, hz⟩
  have HNE := Lib.hid hN
  have HF3 := Lib.hid (freshGrown HF2.out hg3 (by omega))
  have HZ3 := Lib.hid (HZ2.out.grown hg3 (by omega))
  have HNZ := Lib.hid hz
  have HO3 := Lib.hid ho
  have HP3 := Lib.hid hfo
  have HC3 := Lib.hid hc3
  clear ho hfo hz hg3 hc3 hN
  go_wp2_with fail
  refine (kind7_any HX.out HF3.out (by omega) (by omega) (by omega) HC3.out).mono ?_
  rintro e w6 ⟨k6, n6, -, rfl, a6, b6, hc6, hg6⟩
  have HZ6 := Lib.hid (HZ3.out.grown hg6 (by omega))
  have HO6 := Lib.hid (owns_grown HO3.out hg6 hr2)
  have HP6 := Lib.hid (owns_grown HP3.out hg6 hr2)
  have HF6 := Lib.hid (freshGrown HF3.out hg6 (by omega))
  clear hc6 hg6
  have z0 := HZ6.out.cell (i := 0) rfl
  have z1 := HZ6.out.cell (i := 1) rfl
  have y0 := HZ6.out.frozen 0
  have y1 := HZ6.out.frozen 1
  have hfin := (HZ6.out.set 0 (.slice np N nc)).set 1 (.slice fp L.length fc)
  have k0 := hfin.cell (i := 0) rfl
  have k1 := hfin.cell (i := 1) rfl
  have HO7 := Lib.hid (owns_setO (u := .slice fp L.length fc) (owns_setO (u := .slice np N nc) HO6.out HZ6.out (by decide) 0) (HZ6.out.set 0 _) (by decide) 1)
  have HP7 := Lib.hid (owns_setO (u := .slice fp L.length fc) (owns_setO (u := .slice np N nc) HP6.out HZ6.out (by decide) 0) (HZ6.out.set 0 _) (by decide) 1)
  clear hfin
  go_wp2
  refine bodyPost_ret (v := .tuple #[.agg #[.slice np N nc, .slice fp L.length fc], .int .i64 k6]) (by simp [results, Tryz.results6, go_sem, k0, k1]) rfl ?_
  have hne := HNE.out
  subst hne
  exact ⟨_, ⟨l, L⟩, k6, rfl, ⟨np, nc, fp, fc, rfl, owns_mono HO7.out HF2.out.size, owns_mono HP7.out HF2.out.size, h16, h20, HNZ.out⟩, fset (fset HF6.out (Nat.le_refl _) _) (Nat.le_refl _) _⟩
end Go.Proofs.YtlapicgeokjpjaaGreat
