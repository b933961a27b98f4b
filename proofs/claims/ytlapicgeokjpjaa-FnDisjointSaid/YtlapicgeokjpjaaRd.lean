/- Contracts: a route is drawn, the reference's side. -/
import Derived.Test.YtlapicgeokjpjaaDw
import Derived.Test.YtlapicgeokjpjaaY7
import Derived.Deep.DeepCutAuto
namespace Go.Proofs.Ytlapicgeokjpjaa
open Go.RowKit Go.PlainAid

/-- A row of ints of the call's own. -/
def Row (w : World) (base : Nat) (v : Value) (l : List Int) : Prop := w.ownsRow base 3 1 v l.length (l.map iv)
theorem Row.keep {w w' : World} {base : Nat} {v : Value} {l : List Int} (h : Row w base v l) (hb : Fresh w w') : Row w' base v l := ownsRow_keep h hb
theorem Row.oth {w w' : World} {base : Nat} {b : Option Nat} {v : Value} {l : List Int} (h : Row w base v l) (hg : w.grownBy w' b) (hne : ∀ k, v.ownBlock = some k → b ≠ some k) : Row w' base v l := by
  obtain ⟨h1, h2 | ⟨g, cap, cur, hv, hb, hh, r⟩⟩ := h
  · exact ⟨h1, Or.inl h2⟩
  · refine ⟨h1, Or.inr ⟨g, cap, cur, hv, hb, ?_, r⟩⟩
    have hr : RowAt w g 3 cur.toList := by unfold RowAt; exact hh
    have := hg.block g hr.lt (fun e => hne g (by rw [hv]; rfl) e.symm)
    rw [this]; exact hh
theorem Row.ints {w : World} {base n c : Nat} {q : Option Addr} {l : List Int} (h : Row w base (.slice q n c) l) : Ints w q l := (ints_of_own h).2
theorem Row.slice {w : World} {base : Nat} {v : Value} {l : List Int} (h : Row w base v l) : ∃ q c, v = .slice q l.length c := by
  obtain ⟨q, c, hv, _⟩ := owns_cap h
  exact ⟨q, c, hv⟩
theorem Row.mono {w : World} {base b' : Nat} {v : Value} {l : List Int} (h : Row w base v l) (hb : b' ≤ base) : Row w b' v l := owns_mono h hb
/-- One int appended to a row of the call's own; where the row lies afterwards. -/
theorem wpList_app_rd {ops : Array Oper} {rest : List Oper} {o : Oper} {a : Act} {Q : Exit → Act → World → Prop} (base : Nat) (w1 : World) (v : Value) (l : List Int) (x : Int) (hgd : o.guard = none) (s t : Operand)
    (ho : o.op = .call { callee := .builtin .append, args := #[s, t], argTypes := #[28, 28] }) (hs : a.eval s = v) (hown : Row w1 base v l)
    (hx : a.eval t = .slice (some ⟨w1.heap.size, 0, none⟩) 1 1) (hn : l.length ≤ 1048576) (hb : base ≤ w1.heap.size)
    (h : ∀ q' c' w', Row w' base (.slice q' (l.length + 1) c') (l ++ [x]) → w1.grownBy w' v.ownBlock → (∀ k, (Value.slice q' (l.length + 1) c').ownBlock = some k → v.ownBlock = some k ∨ w1.heap.size ≤ k) → wpList Try.prog ops Q rest (a.put o.dst (.slice q' (l.length + 1) c')) w') :
    wpList Try.prog ops Q (o :: rest) a (w1.alloc (.cells #[.int .i64 x] 3)) := by
  obtain ⟨i0, hi, hz0, hz1, hz2⟩ := info_parts infoInt
  refine wpList_append_own_at _ hgd s t 28 ho base 3 i0 (.int .i64 0) 1 8 Try.underlying28 hi hz0 hz1 hz2 rfl (by decide) v l.length (l.map iv) hs (World.ownsRow.alloc hown _) ⟨w1.heap.size, 0, none⟩ 1 1 [iv x] hx rfl one_new
    (by intro u hu; simp at hu; subst hu; rfl) (by unfold maxLen; omega) (by omega) (Nat.le_trans hb (by simp)) ?_
  intro v' w' hown' hgrow _ hblk
  have hrow : Row w' base v' (l ++ [x]) := by unfold Row; rw [List.map_append, List.length_append]; exact hown'
  obtain ⟨q', c', hv'⟩ := hrow.slice
  rw [List.length_append, List.length_singleton] at hv'
  subst hv'
  refine h q' c' w' hrow (grownTrans (grownFresh (fnew (frefl _) _) _) hgrow) (fun k hk => ?_)
  rcases hblk with hb | hb
  · left; rw [← hb]; exact hk
  · right
    rw [hb] at hk
    cases hk
    simp
/-- The route under way, and the nodes seen. -/
structure RdSt (W0 w wr : World) (r : Nat) (cv : Value) (bN bZ bR : Nat) (nt : List Value) (m s : Int) (V : Value) (l : List Int) (S : Value) (z : List Int) : Prop where
  fr : Fresh W0 wr
  gr : w.grownBy wr (some r)
  cu : Cur wr r cv m
  bn : RowAt wr bN 27 nt
  zr : RowAt wr bZ 30 [iv 0, .slice none 0 0]
  bx : RowAt wr bR 30 [iv s, V]
  ro : Row wr w.heap.size V l
  se : Row wr w.heap.size S z
  ne : ∀ k, V.ownBlock = some k → S.ownBlock ≠ some k
theorem RdSt.fresh {W0 w wr w' : World} {r : Nat} {cv : Value} {bN bZ bR : Nat} {nt : List Value} {m s : Int} {V S : Value} {l z : List Int} (h : RdSt W0 w wr r cv bN bZ bR nt m s V l S z) (hb : Fresh wr w') : RdSt W0 w w' r cv bN bZ bR nt m s V l S z :=
  ⟨fstep h.fr hb, grownTrans h.gr (grownFresh hb _), h.cu.keep hb, h.bn.keep hb, h.zr.keep hb, h.bx.keep hb, h.ro.keep hb, h.se.keep hb, h.ne⟩
theorem row_low {w : World} {base r : Nat} {v : Value} {l : List Int} (h : Row w base v l) (hr : r < base) : ∀ k, v.ownBlock = some k → (some r : Option Nat) ≠ some k := by
  intro k hk e
  have := own_block h k hk
  cases e
  omega
theorem RdSt.grown {W0 w wr w' : World} {r : Nat} {cv : Value} {bN bZ bR : Nat} {nt : List Value} {m m' s : Int} {V S : Value} {l z : List Int} (h : RdSt W0 w wr r cv bN bZ bR nt m s V l S z) (hr : W0.heap.size ≤ r) (hN : bN ≠ r) (hZ : bZ ≠ r) (hR : bR ≠ r) (hrw : r < w.heap.size)
    (hg : wr.grownBy w' (some r)) (hc : Cur w' r cv m') : RdSt W0 w w' r cv bN bZ bR nt m' s V l S z :=
  ⟨freshGrown h.fr hg hr, grownTrans h.gr hg, hc, h.bn.grown hg hN, h.zr.grown hg hZ, h.bx.grown hg hR, h.ro.oth hg (row_low h.ro hrw), h.se.oth hg (row_low h.se hrw), h.ne⟩
theorem own_gr {w wr w' : World} {r : Nat} {v : Value} {l : List Int} (hg0 : w.grownBy wr (some r)) (ho : Row wr w.heap.size v l) (hg : wr.grownBy w' v.ownBlock) : w.grownBy w' (some r) :=
  ⟨hg.os.trans hg0.os, hg.tape.trans hg0.tape, hg.output.trans hg0.output, Nat.le_trans hg0.size hg.size, fun i hi hn => (hg.block i (Nat.lt_of_lt_of_le hi hg0.size) (fun e => by have := own_block ho _ e.symm; omega)).trans (hg0.block i hi hn)⟩
/-- A node more is seen. -/
theorem RdSt.appS {W0 w wr w' : World} {r : Nat} {cv : Value} {bN bZ bR : Nat} {nt : List Value} {m s : Int} {V S S' : Value} {l z z' : List Int} (h : RdSt W0 w wr r cv bN bZ bR nt m s V l S z) (hW : W0.heap.size ≤ w.heap.size) (hg : wr.grownBy w' S.ownBlock) (ho : Row w' w.heap.size S' z') (hb : ∀ k, S'.ownBlock = some k → S.ownBlock = some k ∨ wr.heap.size ≤ k) :
    RdSt W0 w w' r cv bN bZ bR nt m s V l S' z' := by
  refine ⟨fgrown h.fr hg (fun k hk => Nat.le_trans hW (own_block h.se k hk)), own_gr h.gr h.se hg, ?_, row_grown0 h.se hg h.bn (by decide), row_grown0 h.se hg h.zr (by decide), row_grown0 h.se hg h.bx (by decide), h.ro.oth hg (fun k hk => h.ne k hk), ho, fun k hk hk2 => ?_⟩
  · obtain ⟨x, hx⟩ := h.cu
    exact ⟨x, row_grown0 h.se hg hx (by decide)⟩
  · rcases hb k hk2 with h1 | h1
    · exact h.ne k hk h1
    · have := (h.ro.lt k hk).2
      omega
/-- A fiber more is on the route, and the route in its box is told of it. -/
theorem RdSt.appV {W0 w wr w' : World} {r : Nat} {cv : Value} {bN bZ bR : Nat} {nt : List Value} {m s : Int} {V V' S : Value} {l l' z : List Int} (h : RdSt W0 w wr r cv bN bZ bR nt m s V l S z) (hW : W0.heap.size ≤ w.heap.size) (hrw : r < w.heap.size) (hR : w.heap.size ≤ bR) (hNR : bN ≠ bR) (hZR : bZ ≠ bR)
    (hg : wr.grownBy w' V.ownBlock) (ho : Row w' w.heap.size V' l') (hb : ∀ k, V'.ownBlock = some k → V.ownBlock = some k ∨ wr.heap.size ≤ k) :
    RdSt W0 w (w'.setCell ⟨bR, 1, none⟩ V') r cv bN bZ bR nt m s V' l' S z := by
  have hbx : RowAt w' bR 30 _ := row_grown0 h.ro hg h.bx (by decide)
  have hcu : Cur w' r cv m := by
    obtain ⟨x, hx⟩ := h.cu
    exact ⟨x, row_grown0 h.ro hg hx (by decide)⟩
  refine ⟨fset (fgrown h.fr hg (fun k hk => Nat.le_trans hW (own_block h.ro k hk))) (by omega) _, grownOwn (own_gr h.gr h.ro hg) (grownSet _ _ _ _) hR, Cur.grown hcu (grownSet _ _ _ _) (by omega), (row_grown0 h.ro hg h.bn (by decide)).setOther hNR _, (row_grown0 h.ro hg h.zr (by decide)).setOther hZR _, hbx.set 1 _,
    owns_setO ho hbx (by decide) 1, owns_setO (h.se.oth hg (fun k hk e => h.ne k e hk)) hbx (by decide) 1, fun k hk hk2 => ?_⟩
  rcases hb k hk with h1 | h1
  · exact h.ne k h1 hk2
  · have := (h.se.lt k hk2).2
    omega
/-- A route is handed back: a row of its own. -/
def OutRd (w : World) (r : Nat) (cv : Value) (n d : Int) (e : Ending) (w' : World) : Prop := ∃ (s : Int) (q : Option Addr) (c : Nat) (l : List Int) (n' : Int), e = .returned (.agg #[.int .i64 s, .slice q l.length c]) ∧ (l.length : Int) ≤ d ∧ Row w' w.heap.size (.slice q l.length c) l ∧ n ≤ n' ∧ n' ≤ n + d ∧ Cur w' r cv n' ∧ w.grownBy w' (some r)
set_option maxHeartbeats 8000000 in
set_option maxRecDepth 100000 in
theorem route_any {W0 w : World} {r : Nat} {p : Option Addr} {cap : Nat} {xs : List Int} {n : Int} (hC : CodeAt W0 p xs) (hf : Fresh W0 w) (hr : W0.heap.size ≤ r) (h0 : 0 ≤ n) (h1 : n ≤ 274877906944) (hcur : Cur w r (.slice p xs.length cap) n)
    (base : Nat) (qn pn : Option Addr) (cn cp : Nat) (M : Net) (hM : NetOw w base (.agg #[.slice qn M.nodes.length cn, .slice pn M.fibers.length cp]) M) (hrb : r < base) :
    Calls Try.prog 31 #[.pointer (some ⟨r, 0, none⟩), .agg #[.slice qn M.nodes.length cn, .slice pn M.fibers.length cp]] w (OutRd w r (.slice p xs.length cap) n 12) := by
  have HX := Lib.hid hC
  have hrw : r < w.heap.size := by obtain ⟨_, hh⟩ := hcur; exact hh.lt
  have h16 : M.nodes.length ≤ 16 ∧ M.fibers.length ≤ 20 := by obtain ⟨_, _, _, _, _, _, _, h, h', _⟩ := hM; exact ⟨h, h'⟩
  obtain ⟨h16, h20⟩ := h16
  have HM := Lib.hid hM
  obtain ⟨W2, hW2, hsz2, hf2, r1, r2⟩ := two_rows w [.slice qn M.nodes.length cn, .slice pn M.fibers.length cp] [.int .i64 0, .slice none 0 0] 27 30
  obtain ⟨bN, hbN⟩ : ∃ b, b = w.heap.size := ⟨_, rfl⟩
  obtain ⟨bZ, hbZ⟩ : ∃ b, b = w.heap.size + 1 := ⟨_, rfl⟩
  rw [← hbZ] at r2
  rw [← hbN] at r1
  have HC2 := Lib.hid (hcur.keep hf2)
  have HF2 := Lib.hid (fstep hf hf2)
  have HG2 := Lib.hid (grownFresh hf2 (some r))
  have HR1 := Lib.hid r1
  have HR2 := Lib.hid r2
  have HW2 := Lib.hid hW2
  have HBN := Lib.hid hbN
  have HBZ := Lib.hid hbZ
  have hbNw : w.heap.size ≤ bN ∧ w.heap.size ≤ bZ ∧ bN < bZ ∧ bZ < W2.heap.size := by omega
  obtain ⟨hb1, hb2, hb3, hb4⟩ := hbNw
  have c0 := r1.cell (i := 0) rfl
  have hW0 : W0.heap.size ≤ w.heap.size := hf.size
  clear hC hcur hf hf2 r1 r2 hW2 hbN hbZ hM hsz2
  go_enter Try.func31, Try.ntmps31
  go_upto_region 1 with fail
  rw [← HW2.out, ← HBZ.out, ← HBN.out]
  go_wp2_with fail
  refine (pick_any HX.out _ HF2.out hr h0 (by omega) (by omega) HC2.out).mono ?_
  rintro e w3 ⟨s, n3, ⟨s0, s1⟩, rfl, a3, b3, hc3, hg3⟩
  have hF3 := freshGrown HF2.out hg3 hr
  obtain ⟨W4, hW4⟩ : ∃ W, W = w3.alloc (.cells #[.int .i64 s, .slice none 0 0] 30) := ⟨_, rfl⟩
  obtain ⟨bR, hbR⟩ : ∃ b, b = w3.heap.size := ⟨_, rfl⟩
  have hf4 : Fresh w3 W4 := by rw [hW4]; exact fnew (frefl _) _
  have hx4 : RowAt W4 bR 30 [iv s, .slice none 0 0] := by rw [hW4, hbR]; exact RowAt.new _ _ _
  obtain ⟨W5, hW5⟩ : ∃ W, W = W4.alloc (.cells #[.int .i64 s] 3) := ⟨_, rfl⟩
  have hsW4 : W4.heap.size = w3.heap.size + 1 := by rw [hW4]; simp
  obtain ⟨bS, hbS⟩ : ∃ b, b = w3.heap.size + 1 := ⟨_, rfl⟩
  have hf5 : Fresh W4 W5 := by rw [hW5]; exact fnew (frefl _) _
  have hx5 : RowAt W5 bS 3 [iv s] := by rw [hW5, hbS, ← hsW4]; exact RowAt.new _ _ _
  have hsz3 : W2.heap.size ≤ w3.heap.size := hg3.size
  have hsz4 : w3.heap.size ≤ W4.heap.size := hf4.size
  have hrow5 : Row W5 w.heap.size (.slice (some ⟨bS, 0, none⟩) 1 1) [s] := ⟨rfl, Or.inr ⟨bS, 1, #[iv s], rfl, by omega, by unfold RowAt at hx5; exact hx5, Nat.le_refl 1, by decide, rfl, rfl⟩⟩
  have hnil5 : Row W5 w.heap.size (.slice none 0 0) [] := ⟨rfl, Or.inl ⟨rfl, rfl⟩⟩
  have HST5 : Hid (RdSt W0 w W5 r (.slice p xs.length cap) bN bZ bR [.slice qn M.nodes.length cn, .slice pn M.fibers.length cp] n3 s (.slice none 0 0) [] (.slice (some ⟨bS, 0, none⟩) 1 1) [s]) :=
    ⟨fstep hF3 (fstep hf4 hf5), grownTrans (grownTrans HG2.out hg3) (grownFresh (fstep hf4 hf5) _), hc3.keep (fstep hf4 hf5), (HR1.out.grown hg3 (by omega)).keep (fstep hf4 hf5), (HR2.out.grown hg3 (by omega)).keep (fstep hf4 hf5), hx4.keep hf5, hnil5, hrow5, fun k hk => by cases hk⟩
  have hbR1 : bZ < bR := by omega
  have HC0 := Lib.hid ((HR1.out.grown hg3 (by omega : bN ≠ r)).cell (i := 0) rfl)
  have HW4 := Lib.hid hW4
  have HW5 := Lib.hid hW5
  have HBR := Lib.hid hbR
  have HBS := Lib.hid hbS
  clear hsW4 hc3 hg3 hF3 hW4 hf4 hx4 hW5 hf5 hx5 hbR hbS hrow5 hnil5 c0 hsz3 hsz4
  go_upto_region 4 with fail
  rw [← HW4.out, ← HW5.out, ← HBS.out, ← HBR.out]
  go_wp2_with fail
  refine (pick_any HX.out 4 HST5.out.fr hr (by omega) (by omega) (by omega) HST5.out.cu).mono ?_
  rintro e w6 ⟨x6, n6, ⟨x60, x61⟩, rfl, a6, b6, hc6, hg6⟩
  have HST6 := Lib.hid (HST5.out.grown hr (by omega) (by omega) (by omega) hrw hg6 hc6)
  have hw6 : IntKind.i64.wrap (1 + x6) = 1 + x6 := by rw [IntKind.wrap_i64]; omega
  obtain ⟨j6, hj6⟩ : ∃ j : Nat, 1 + x6 = (j : Int) := ⟨(1 + x6).toNat, by omega⟩
  have hj64 : j6 ≤ 4 := by omega
  rw [hj6] at hw6
  clear hc6 hg6
  go_wp2
  clear hw6
  go_loopw [7, 8] (fun S mv wr => ∃ (j : Nat) (m : Int) (V : Value) (l : List Int) (z : List Int), j ≤ 4 ∧ mv = .int .i64 (j : Int) ∧ RdSt W0 w wr r (.slice p xs.length cap) bN bZ bR [.slice qn M.nodes.length cn, .slice pn M.fibers.length cp] m s V l S z ∧ l.length + j ≤ 4 ∧ 0 < z.length ∧ z.length + j ≤ 5 ∧ n ≤ m ∧ m ≤ n + 4 + 2 * (4 - j)) (fun _ m _ => (intOf m).toNat)
  case atStart => exact ⟨j6, n6, _, [], [s], hj64, rfl, HST6.out, by simp; omega, by simp, by simp; omega, by omega, by omega⟩
  case round =>
    obtain ⟨j, m, V, l, z, hj4, rfl, hst, hl4, hz0, hz5, hm1, hm2⟩ := hrel
    have HST := Lib.hid hst
    obtain ⟨qv, cv, rfl⟩ := hst.ro.slice
    obtain ⟨qs, cs, rfl⟩ := hst.se.slice
    obtain ⟨wo, rfl⟩ : ∃ W, W = wr := ⟨_, rfl⟩
    clear hst
    by_cases hj0 : j = 0
    · subst hj0
      clear HST6
      have z0 := HST.out.zr.cell (i := 0) rfl
      have z1 := HST.out.zr.cell (i := 1) rfl
      have y0 := HST.out.zr.frozen 0
      have y1 := HST.out.zr.frozen 1
      have b0 := HST.out.bx.cell (i := 0) rfl
      have b1 := HST.out.bx.cell (i := 1) rfl
      have hfin := (HST.out.zr.set 0 (.int .i64 s)).set 1 (.slice qv l.length cv)
      have k0 := hfin.cell (i := 0) rfl
      have k1 := hfin.cell (i := 1) rfl
      have HRO := Lib.hid (owns_setO (u := .slice qv l.length cv) (owns_setO (u := .int .i64 s) HST.out.ro HST.out.zr (by decide) 0) (HST.out.zr.set 0 _) (by decide) 1)
      have HGF := Lib.hid (grownOwn (grownOwn HST.out.gr (grownSet _ bZ 0 (.int .i64 s)) hb2) (grownSet _ bZ 1 (.slice qv l.length cv)) hb2)
      have HCF := Lib.hid (Cur.grown (Cur.grown HST.out.cu (grownSet _ bZ 0 (.int .i64 s)) (by omega)) (grownSet _ bZ 1 (.slice qv l.length cv)) (by omega))
      clear hfin
      go_wp2
      refine bodyPost_ret (v := .agg #[.int .i64 s, .slice qv l.length cv]) (by simp [results, Try.results31, go_sem, k0, k1]) rfl ?_
      exact ⟨s, qv, cv, l, m, rfl, by omega, HRO.out, by omega, by omega, HCF.out, HGF.out⟩
    · obtain ⟨j, rfl⟩ : ∃ i, j = i + 1 := ⟨j - 1, by omega⟩
      have hjz : 0 < ((j + 1 : Nat) : Int) := by omega
      have hjd : decide (0 < j + 1) = true := decide_eq_true (by omega)
      go_upto_region 8 with fail
      have HRN := Lib.hid (fnew (frefl wo) (.cells #[] 3))
      have hrow0 : Row (wo.alloc (.cells #[] 3)) wo.heap.size (.slice (some ⟨wo.heap.size, 0, none⟩) 0 0) [] := ownsRow_zero (RowAt.new wo _ []) (Nat.le_refl _)
      have HRW0 := Lib.hid hrow0
      clear hrow0
      go_wp2
      go_loopw [9, 10] (fun lv iv wq => ∃ k : Nat, k ≤ M.fibers.length ∧ iv = .int .i64 (k : Int) ∧ ∃ L : List Int, Row wq wo.heap.size lv L ∧ L.length ≤ k ∧ (∀ x ∈ L, ∃ k : Nat, x = (k : Int) ∧ k < M.fibers.length) ∧ Fresh wo wq) (fun _ i _ => M.fibers.length - (intOf i).toNat)
      case atStart => exact ⟨0, Nat.zero_le _, rfl, [], HRW0.out, Nat.le_refl _, (fun x hx => by simp at hx), HRN.out⟩
      case round =>
        obtain ⟨k, hk, rfl, L, hrow, hLk, hall, hfq⟩ := hrel
        obtain ⟨ql, cl, rfl⟩ := hrow.slice
        obtain ⟨wq, rfl⟩ : ∃ W, W = wr := ⟨_, rfl⟩
        have HRW := Lib.hid hrow
        have HAL := Lib.hid hall
        have HFQ := Lib.hid hfq
        have HSQ := Lib.hid (HST.out.fresh hfq)
        have c0 := HSQ.out.bn.cell (i := 0) rfl
        have c1 := HSQ.out.bn.cell (i := 1) rfl
        clear hrow hall hfq
        by_cases hlt : k < M.fibers.length
        · have hltz : (k : Int) < (M.fibers.length : Int) := by omega
          have hnet := (HM.out.grown HSQ.out.gr hrb).net
          obtain ⟨_, _, _, _, hve, _, hfi, _⟩ := hnet
          cases hve
          have HFI := Lib.hid hfi
          obtain ⟨b2, off2, x, y, zz, u, hfp, hfx, _⟩ := hfi.at hlt
          have HFX := Lib.hid hfx
          clear hfp hfi hfx
          obtain ⟨bo, oo, hqs, hlast⟩ := last_cell HSQ.out.se.ints hz0
          subst hqs
          have ho1 : (z.length : Int) - 1 < (z.length : Int) := by omega
          have ho2 : 0 ≤ (z.length : Int) - 1 := by omega
          have ho4 : IntKind.i64.wrap ((z.length : Int) - 1) = (z.length : Int) - 1 := by rw [IntKind.wrap_i64]; omega
          have ho5 : ((z.length : Int) - 1).toNat = z.length - 1 := by omega
          have ho6 : 1 ≤ (z.length : Int) := by omega
          have ho3 : (z.length : Int) - 1 ≤ (z.length : Int) := by omega
          obtain ⟨X, hX⟩ : ∃ X, X = other ⟨x, y, zz, u⟩ (lastI z) := ⟨_, rfl⟩
          have HXE := Lib.hid hX
          clear hX
          go_wp2
          go_still_tail 8, (by kernel_rfl)
          change wpList _ _ _ _ _ wq.drew
          have hb : Fresh wq wq.drew := fdrew (frefl _)
          replace c0 := fkeep hb c0
          replace c1 := fkeep hb c1
          replace hlast := fkeep hb hlast
          replace HRW := Lib.hid (HRW.out.keep hb)
          replace HFQ := Lib.hid (fstep HFQ.out hb)
          replace HSQ := Lib.hid (HSQ.out.fresh hb)
          replace HFI := Lib.hid (HFI.out.keep hb)
          clear hb
          generalize wq.drew = we at c0 c1 hlast HRW HFQ HSQ HFI
          go_wp2_with fail
          refine (l2Other_any qn pn M.nodes.length cn cp M.fibers k x y zz u (lastI z) _ HFI.out HFX.out (by omega)).mono ?_
          rintro e w8 ⟨rfl, hb⟩
          rw [← HXE.out]
          replace c0 := fkeep hb c0
          replace c1 := fkeep hb c1
          replace hlast := fkeep hb hlast
          replace HRW := Lib.hid (HRW.out.keep hb)
          replace HFQ := Lib.hid (fstep HFQ.out hb)
          replace HSQ := Lib.hid (HSQ.out.fresh hb)
          clear hb
          have hw1 : IntKind.i64.wrap ((k : Int) + 1) = (k : Int) + 1 := by rw [IntKind.wrap_i64]; omega
          have HAL2 : Hid (∀ x ∈ L, ∃ k : Nat, x = (k : Int) ∧ k < M.fibers.length) := HAL.out
          by_cases hneg : X < 0
          · have hdn : decide (X < 0) = true := decide_eq_true hneg
            have hdn2 : ¬ 0 ≤ X := by omega
            go_wp2
            go_roundw
            case rel => exact ⟨k + 1, by omega, by go_num, L, HRW.out, by omega, HAL2.out, HFQ.out⟩
            case measure => simp [intOf]; omega
          · have hdn : decide (X < 0) = false := decide_eq_false hneg
            have hdn2 : 0 ≤ X := by omega
            by_cases hmem : X ∈ z
            · have hdm : decide (X ∈ z) = true := decide_eq_true hmem
              clear hmem
              go_wp2_with (go_at_call 49; refine (l1Has_any _ _ _ _ _ HSQ.out.se.ints (by omega)).mono ?_; rintro e w9 ⟨rfl, rfl⟩)
              go_wp2
              go_roundw
              case rel => (repeat apply Exists.intro); refine ⟨?_, rfl⟩; exact ⟨k + 1, by omega, by go_num, L, HRW.out, by omega, HAL2.out, HFQ.out⟩
              case measure => simp [intOf]; omega
            · have hdm : decide (X ∈ z) = false := decide_eq_false hmem
              clear hmem
              have hszq : wo.heap.size ≤ w8.heap.size := HFQ.out.size
              go_wp2_with (first
                | (go_at_call 49; refine (l1Has_any _ _ _ _ _ HSQ.out.se.ints (by omega)).mono ?_; rintro e w9 ⟨rfl, rfl⟩)
                | (at_builtin; refine wpList_app_ints wo _ _ L (k : Int) rfl _ _ rfl rfl HRW.out rfl (by omega) HFQ.out ?_; intro v' w9 hown9 hf9))
              have HO9 : Hid (Row w9 wo.heap.size v' (L ++ [(k : Int)])) := hown9
              have HF9 := Lib.hid hf9
              clear hown9 hf9 c0 c1 hlast
              go_wp2
              go_roundw
              case rel => (repeat apply Exists.intro); refine ⟨?_, rfl⟩; exact ⟨k + 1, by omega, by go_num, L ++ [(k : Int)], HO9.out, by simp; omega, (fun x hx => by
                rcases List.mem_append.1 hx with h | h
                · exact HAL2.out x h
                · exact ⟨k, by simpa using h, hlt⟩), HF9.out⟩
              case measure => simp [intOf]; omega
        · have hkn : k = M.fibers.length := by omega
          have hltz : ¬ (k : Int) < (M.fibers.length : Int) := by omega
          clear hkn c0
          by_cases hL0 : L.length = 0
          · have hLz : (((L.length : Nat) : Int) == 0) = true := by rw [hL0]; rfl
            clear hL0
            go_upto_region 18 with fail
            have z0 := HSQ.out.zr.cell (i := 0) rfl
            have z1 := HSQ.out.zr.cell (i := 1) rfl
            have y0 := HSQ.out.zr.frozen 0
            have y1 := HSQ.out.zr.frozen 1
            have b0 := HSQ.out.bx.cell (i := 0) rfl
            have b1 := HSQ.out.bx.cell (i := 1) rfl
            have hfin := (HSQ.out.zr.set 0 (.int .i64 s)).set 1 (.slice qv l.length cv)
            have k0 := hfin.cell (i := 0) rfl
            have k1 := hfin.cell (i := 1) rfl
            have HRO := Lib.hid (owns_setO (u := .slice qv l.length cv) (owns_setO (u := .int .i64 s) HSQ.out.ro HSQ.out.zr (by decide) 0) (HSQ.out.zr.set 0 _) (by decide) 1)
            have HGF := Lib.hid (grownOwn (grownOwn HSQ.out.gr (grownSet _ bZ 0 (.int .i64 s)) hb2) (grownSet _ bZ 1 (.slice qv l.length cv)) hb2)
            have HCF := Lib.hid (Cur.grown (Cur.grown HSQ.out.cu (grownSet _ bZ 0 (.int .i64 s)) (by omega)) (grownSet _ bZ 1 (.slice qv l.length cv)) (by omega))
            clear hfin
            go_wp2
            refine bodyPost_ret (v := .agg #[.int .i64 s, .slice qv l.length cv]) (by simp [results, Try.results31, go_sem, k0, k1]) rfl ?_
            exact ⟨s, qv, cv, l, m, rfl, by omega, HRO.out, by omega, by omega, HCF.out, HGF.out⟩
          · have hLz : (((L.length : Nat) : Int) == 0) = false := by rw [beq_eq_false_iff_ne]; omega
            go_wp2_with fail
            refine (pick_any HX.out _ HSQ.out.fr hr (by omega) (by omega) (by omega) HSQ.out.cu).mono ?_
            rintro e wp ⟨xp, np, ⟨xp0, xp1⟩, rfl, ap, bp, hcp, hgp⟩
            have hltp : xp.toNat < L.length := by omega
            obtain ⟨b, o, y, hqe, hy, hc⟩ := HRW.out.ints.at hltp
            subst hqe
            have hwsz : w.heap.size ≤ wo.heap.size := HST.out.gr.size
            have hbr : b ≠ r := by have := own_block HRW.out b rfl; omega
            have hcell : wp.cell? ⟨b, o + xp.toNat, none⟩ = some (.int .i64 y) := hgp.cell hc (fun e => hbr (Option.some.inj e))
            obtain ⟨kf, rfl, hkf⟩ := HAL.out y (List.mem_of_getElem? hy)
            have hxz : xp < (L.length : Int) := by omega
            have HSP := Lib.hid (HSQ.out.grown hr (by omega) (by omega) (by omega) hrw hgp hcp)
            have b1 := HSP.out.bx.cell (i := 1) rfl
            have hsp : w.heap.size ≤ wp.heap.size := HSP.out.gr.size
            clear hc hy hcp hgp hltp hbr c1 hLz hL0
            go_upto_region 17 with (at_builtin; refine wpList_app_rd w.heap.size _ _ l (kf : Int) rfl _ _ rfl rfl HSP.out.ro rfl (by omega) hsp ?_; intro q9 c9 w9 hown9 hg9 hb9; have hbx9 := row_grown0 HSP.out.ro hg9 HSP.out.bx (by decide); have z9 := hbx9.cell (i := 1) rfl; have y9 := hbx9.frozen 1; have HST9 := Lib.hid (HSP.out.appV hW0 hrw (by omega) (by omega) (by omega) hg9 hown9 hb9); clear hbx9 hown9 hg9 hb9)
            obtain ⟨wS, hwS⟩ : ∃ W, W = w9.setCell ⟨bR, 1, none⟩ (.slice q9 (l.length + 1) c9) := ⟨_, rfl⟩
            rw [← hwS] at HST9 ⊢
            clear z9 y9 b1 hcell hwS
            have hnet := (HM.out.grown HST9.out.gr hrb).net
            obtain ⟨_, _, _, _, hve, _, hfi, _⟩ := hnet
            cases hve
            have HFI := Lib.hid hfi
            obtain ⟨b2, off2, x, y, zz, u, hfp, hfx, _⟩ := hfi.at hkf
            have HFX := Lib.hid hfx
            clear hfp hfi hfx
            obtain ⟨bo, oo, hqs, hlast⟩ := last_cell HST9.out.se.ints hz0
            subst hqs
            have ho1 : (z.length : Int) - 1 < (z.length : Int) := by omega
            have ho2 : 0 ≤ (z.length : Int) - 1 := by omega
            have ho4 : IntKind.i64.wrap ((z.length : Int) - 1) = (z.length : Int) - 1 := by rw [IntKind.wrap_i64]; omega
            have ho5 : ((z.length : Int) - 1).toNat = z.length - 1 := by omega
            have ho6 : 1 ≤ (z.length : Int) := by omega
            have ho3 : (z.length : Int) - 1 ≤ (z.length : Int) := by omega
            have c0 := HST9.out.bn.cell (i := 0) rfl
            have c1 := HST9.out.bn.cell (i := 1) rfl
            refine hd_start (n := 11) (S := fun w' => w'.cell? ⟨bN, 0, none⟩ = some (.slice qn M.nodes.length cn) ∧ w'.cell? ⟨bN, 1, none⟩ = some (.slice pn M.fibers.length cp) ∧ w'.cell? ⟨bo, oo + (z.length - 1), none⟩ = some (.int .i64 (lastI z))) (by kernel_rfl) (by kernel_rfl) ⟨fkeep (fdrew (frefl _)) c0, fkeep (fdrew (frefl _)) c1, fkeep (fdrew (frefl _)) hlast⟩ (fun hHeld => ?_)
            obtain ⟨d0, hd0⟩ : ∃ W, W = wS.drew := ⟨_, rfl⟩
            rw [← hd0] at hHeld ⊢
            have fd0 : Fresh wS d0 := by rw [hd0]; exact fdrew (frefl _)
            clear hd0
            refine hd_tk (i := 0) (v := ?_) rfl ?_ ?_
            rotate_left
            · (intro w hSw; (try dsimp only at hSw); go_simp; first | done | with_reducible rfl)
            try simp only [PU]
            refine hd_tk (i := 1) (v := ?_) rfl ?_ ?_
            rotate_left
            · (intro w hSw; (try dsimp only at hSw); go_simp; first | done | with_reducible rfl)
            try simp only [PU]
            refine hd_tk (i := 2) (v := ?_) rfl ?_ ?_
            rotate_left
            · (intro w hSw; (try dsimp only at hSw); go_simp; first | done | with_reducible rfl)
            try simp only [PU]
            refine hd_tk (i := 3) (v := ?_) rfl ?_ ?_
            rotate_left
            · (intro w hSw; (try dsimp only at hSw); go_simp; first | done | with_reducible rfl)
            try simp only [PU]
            refine hd_tk (i := 4) (v := ?_) rfl ?_ ?_
            rotate_left
            · (intro w hSw; (try dsimp only at hSw); go_simp; first | done | with_reducible rfl)
            try simp only [PU]
            refine hd_tk (i := 5) (v := ?_) rfl ?_ ?_
            rotate_left
            · (intro w hSw; (try dsimp only at hSw); go_simp; first | done | with_reducible rfl)
            try simp only [PU]
            refine hd_tk (i := 6) (v := ?_) rfl ?_ ?_
            rotate_left
            · (intro w hSw; (try dsimp only at hSw); go_simp; first | done | with_reducible rfl)
            try simp only [PU]
            refine hd_tk (i := 7) (v := ?_) rfl ?_ ?_
            rotate_left
            · (intro w hSw; (try dsimp only at hSw); go_simp; first | done | with_reducible rfl)
            try simp only [PU]
            refine hd_tk (i := 8) (v := ?_) rfl ?_ ?_
            rotate_left
            · (intro w hSw; (try dsimp only at hSw); go_simp; first | done | with_reducible rfl)
            try simp only [PU]
            refine hd_one (i := 9) rfl (by kernel_rfl) (by kernel_rfl) (fun K hK => ?_)
            go_simp
            go_at_call 53
            refine (l2Other_any qn pn M.nodes.length cn cp M.fibers kf x y zz u (lastI z) _ (HFI.out.keep fd0) HFX.out (by omega)).mono ?_
            rintro e u1 ⟨rfl, hfu⟩
            obtain ⟨X, hX⟩ : ∃ X, X = other ⟨x, y, zz, u⟩ (lastI z) := ⟨_, rfl⟩
            rw [← hX]
            clear hX
            have fu1 := fstep fd0 hfu
            clear hfu
            go_wp2_with fail
            refine hK.out _ _ ?_ (fun hHeld => ?_)
            · exact ⟨fkeep fu1 c0, fkeep fu1 c1, fkeep fu1 hlast⟩
            clear hK K
            try simp only [PU]
            refine hd_one (i := 10) rfl (by kernel_rfl) (by kernel_rfl) (fun K hK => ?_)
            go_simp
            refine hK.out _ _ ?_ (fun hHeld => ?_)
            · exact ⟨fkeep (fnew fu1 _) c0, fkeep (fnew fu1 _) c1, fkeep (fnew fu1 _) hlast⟩
            clear hK K
            try simp only [PU]
            refine hd_done (by kernel_rfl) ?_
            clear hHeld
            simp only [List.drop_succ_cons, List.drop_zero]
            have HSU := Lib.hid (HST9.out.fresh fu1)
            have hsu : w.heap.size ≤ u1.heap.size := HSU.out.gr.size
            clear c0 c1 hlast fu1 fd0
            have hwj : IntKind.i64.wrap (j : Int) = (j : Int) := by rw [IntKind.wrap_i64]; omega
            have hwj2 : IntKind.i64.wrap ((j : Int) + 1 - 1) = (j : Int) := by rw [IntKind.wrap_i64]; omega
            go_wp2_with (at_builtin; refine wpList_app_rd w.heap.size _ _ z X rfl _ _ rfl rfl HSU.out.se rfl (by omega) hsu ?_; intro q10 c10 w10 hown10 hg10 hb10; have HSV := Lib.hid (HSU.out.appS hW0 hg10 hown10 hb10); clear hown10 hg10 hb10)
            go_wp2
            go_roundw
            case rel => exact ⟨j, np, _, l ++ [(kf : Int)], z ++ [X], by omega, rfl, HSV.out, by simp; omega, by simp, by simp; omega, by omega, by omega⟩
            case measure => simp [intOf]
end Go.Proofs.Ytlapicgeokjpjaa
