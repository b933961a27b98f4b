/- Contracts: the draw of DrawAreDisjoint, the reference's side. (Printed by gen_ds.py.) -/
import Derived.Test.YtlapicgeokjpjaaRd2
import Derived.Test.YtlapicgeokjpjaaMgR
import Derived.Test.YtlapicgeokjpjaaBp4
import Derived.Test.YtlapicgeokjpjaaPo
namespace Go.Proofs.Ytlapicgeokjpjaa
open Go.RowKit Go.PlainAid

theorem RtOwn.grownR {w w' : World} {base r : Nat} {v : Value} {R : Int × List Int} (h : RtOwn w base v R) (k : w.grownBy w' (some r)) (hr : r < base) : RtOwn w' base v R := by
  obtain ⟨q, c, hv, ho⟩ := h
  refine ⟨q, c, hv, ?_⟩
  rcases ho with h | ⟨g, sp, hq, hg, hrow⟩
  · exact Or.inl h
  · exact Or.inr ⟨g, sp, hq, hg, hrow.grown k (by omega)⟩
theorem row_rt {w : World} {base c : Nat} {s : Int} {q : Option Addr} {l : List Int} (h : Row w base (.slice q l.length c) l) : RtOwn w base (.agg #[.int .i64 s, .slice q l.length c]) (s, l) := by
  obtain ⟨q', c', hv, ho, _⟩ := owns_cap h
  cases hv
  exact ⟨q, c, rfl, ho⟩
/-- The draw under way: three boxes of the results, the network and the first route in theirs. -/
structure DdSt (w wr : World) (r : Nat) (cv : Value) (g2 g3 g4 bN bR base : Nat) (qn pn : Option Addr) (cn cp : Nat) (M : Net) (sA : Int) (qA : Option Addr) (cA : Nat) (lA : List Int) (m : Int) : Prop where
  fr : Fresh w wr
  cu : Cur wr r cv m
  z2 : RowAt wr g2 27 [.slice none 0 0, .slice none 0 0]
  z3 : RowAt wr g3 30 [iv 0, .slice none 0 0]
  z4 : RowAt wr g4 30 [iv 0, .slice none 0 0]
  bn : RowAt wr bN 27 [.slice qn M.nodes.length cn, .slice pn M.fibers.length cp]
  br : RowAt wr bR 30 [iv sA, .slice qA lA.length cA]
  nt : NetOw wr base (.agg #[.slice qn M.nodes.length cn, .slice pn M.fibers.length cp]) M
  ra : RtOwn wr base (.agg #[.int .i64 sA, .slice qA lA.length cA]) (sA, lA)
  lo : base ≤ wr.heap.size
theorem DdSt.fresh {w wr w' : World} {r : Nat} {cv : Value} {g2 g3 g4 bN bR base : Nat} {qn pn : Option Addr} {cn cp : Nat} {M : Net} {sA : Int} {qA : Option Addr} {cA : Nat} {lA : List Int} {m : Int} (h : DdSt w wr r cv g2 g3 g4 bN bR base qn pn cn cp M sA qA cA lA m) (hb : Fresh wr w') :
    DdSt w w' r cv g2 g3 g4 bN bR base qn pn cn cp M sA qA cA lA m :=
  ⟨fstep h.fr hb, h.cu.keep hb, h.z2.keep hb, h.z3.keep hb, h.z4.keep hb, h.bn.keep hb, h.br.keep hb, h.nt.keep hb, h.ra.keep hb, Nat.le_trans h.lo hb.size⟩
theorem DdSt.grown {w wr w' : World} {r : Nat} {cv : Value} {g2 g3 g4 bN bR base : Nat} {qn pn : Option Addr} {cn cp : Nat} {M : Net} {sA : Int} {qA : Option Addr} {cA : Nat} {lA : List Int} {m m' : Int} (h : DdSt w wr r cv g2 g3 g4 bN bR base qn pn cn cp M sA qA cA lA m)
    (hr : w.heap.size ≤ r) (n2 : g2 ≠ r) (n3 : g3 ≠ r) (n4 : g4 ≠ r) (nN : bN ≠ r) (nR : bR ≠ r) (hb : r < base) (hg : wr.grownBy w' (some r)) (hc : Cur w' r cv m') :
    DdSt w w' r cv g2 g3 g4 bN bR base qn pn cn cp M sA qA cA lA m' :=
  ⟨freshGrown h.fr hg hr, hc, h.z2.grown hg n2, h.z3.grown hg n3, h.z4.grown hg n4, h.bn.grown hg nN, h.br.grown hg nR, h.nt.grown hg hb, h.ra.grownR hg hb, Nat.le_trans h.lo hg.size⟩
theorem dd_end {w wr : World} {r : Nat} {cv : Value} {g2 g3 g4 bN bR base : Nat} {qn pn : Option Addr} {cn cp : Nat} {M : Net} {sA : Int} {qA : Option Addr} {cA : Nat} {lA : List Int} {m : Int} (h : DdSt w wr r cv g2 g3 g4 bN bR base qn pn cn cp M sA qA cA lA m)
    (h2 : w.heap.size ≤ g2) (h3 : g2 < g3) (h4 : g3 < g4) (h5 : g4 < base) {sB : Int} {qB : Option Addr} {cB : Nat} {lB : List Int} (hB : RtOwn wr base (.agg #[.int .i64 sB, .slice qB lB.length cB]) (sB, lB)) :
    ∃ Wf, Wf = (((((wr.setCell ⟨g2, 0, none⟩ (.slice qn M.nodes.length cn)).setCell ⟨g2, 1, none⟩ (.slice pn M.fibers.length cp)).setCell ⟨g3, 0, none⟩ (.int .i64 sA)).setCell ⟨g3, 1, none⟩ (.slice qA lA.length cA)).setCell ⟨g4, 0, none⟩ (.int .i64 sB)).setCell ⟨g4, 1, none⟩ (.slice qB lB.length cB) ∧
      RowAt Wf g2 27 [.slice qn M.nodes.length cn, .slice pn M.fibers.length cp] ∧ RowAt Wf g3 30 [.int .i64 sA, .slice qA lA.length cA] ∧ RowAt Wf g4 30 [.int .i64 sB, .slice qB lB.length cB] ∧
      NetIn Wf (.agg #[.slice qn M.nodes.length cn, .slice pn M.fibers.length cp]) M ∧ RtOwn Wf base (.agg #[.int .i64 sA, .slice qA lA.length cA]) (sA, lA) ∧ RtOwn Wf base (.agg #[.int .i64 sB, .slice qB lB.length cB]) (sB, lB) ∧ Fresh w Wf := by
  refine ⟨_, rfl, ?_, ?_, ?_, ?_, ?_, ?_, ?_⟩
  · exact (((((h.z2.set 0 _).set 1 _).setOther (by omega) _).setOther (by omega) _).setOther (by omega) _).setOther (by omega) _
  · exact (((((h.z3.setOther (by omega) _).setOther (by omega) _).set 0 _).set 1 _).setOther (by omega) _).setOther (by omega) _
  · exact (((((h.z4.setOther (by omega) _).setOther (by omega) _).setOther (by omega) _).setOther (by omega) _).set 0 _).set 1 _
  · exact ((((((h.nt.grown (grownSet _ _ _ _) (by omega)).grown (grownSet _ _ _ _) (by omega)).grown (grownSet _ _ _ _) (by omega)).grown (grownSet _ _ _ _) (by omega)).grown (grownSet _ _ _ _) (by omega)).grown (grownSet _ _ _ _) (by omega)).net
  · exact (((((h.ra.setO (by omega) _ _).setO (by omega) _ _).setO (by omega) _ _).setO (by omega) _ _).setO (by omega) _ _).setO (by omega) _ _
  · exact (((((hB.setO (by omega) _ _).setO (by omega) _ _).setO (by omega) _ _).setO (by omega) _ _).setO (by omega) _ _).setO (by omega) _ _
  · exact fset (fset (fset (fset (fset (fset h.fr h2 _) h2 _) (by omega) _) (by omega) _) (by omega) _) (by omega) _
/-- A network, two routes and a kind are handed back. -/
def OutDd (w : World) (e : Ending) (w' : World) : Prop := ∃ (v : Value) (n : Net) (v2 : Value) (A : Int × List Int) (v3 : Value) (B : Int × List Int) (k : Int), e = .returned (.tuple #[v, v2, v3, .int .i64 k]) ∧ NetIn w' v n ∧ RtIn w' v2 A ∧ RtIn w' v3 B ∧ Fresh w w'
set_option maxHeartbeats 8000000 in
set_option maxRecDepth 100000 in
theorem drawAreDisjoint_any (p : Option Addr) (cap : Nat) (xs : List Int) (w : World) (hC : CodeAt w p xs) : Calls Try.prog 5 #[.slice p xs.length cap] w (OutDd w) := by
  have HX := Lib.hid hC
  obtain ⟨W3, hW3, hsz3, hf3, r1, r2, r3⟩ := three_rows w [.slice none 0 0, .slice none 0 0] [.int .i64 0, .slice none 0 0] [.int .i64 0, .slice none 0 0] 27 30 30
  obtain ⟨g2, hg2⟩ : ∃ g, g = w.heap.size := ⟨_, rfl⟩
  obtain ⟨g3, hg3⟩ : ∃ g, g = w.heap.size + 1 := ⟨_, rfl⟩
  obtain ⟨g4, hg4⟩ : ∃ g, g = w.heap.size + 1 + 1 := ⟨_, rfl⟩
  obtain ⟨r, hr⟩ : ∃ g, g = w.heap.size + 1 + 1 + 1 := ⟨_, rfl⟩
  rw [← hg4] at r3
  rw [← hg3] at r2
  rw [← hg2] at r1
  obtain ⟨W4, hW4⟩ : ∃ W, W = W3.alloc (.cells #[.slice p xs.length cap, .int .i64 0, .int .u64 0] 40) := ⟨_, rfl⟩
  have hf4 : Fresh W3 W4 := by rw [hW4]; exact fnew (frefl _) _
  have hc4 : Cur W4 r (.slice p xs.length cap) 0 := ⟨0, by rw [hW4, hr, ← hsz3]; exact RowAt.new _ _ _⟩
  have hs4 : W4.heap.size = r + 1 := by rw [hW4]; simp; omega
  have HF4 := Lib.hid (fstep hf3 hf4)
  have HC4 := Lib.hid hc4
  have HZ2 := Lib.hid (r1.keep hf4)
  have HZ3 := Lib.hid (r2.keep hf4)
  have HZ4 := Lib.hid (r3.keep hf4)
  have HW3 := Lib.hid hW3
  have HW4 := Lib.hid hW4
  have HG2 := Lib.hid hg2
  have HG3 := Lib.hid hg3
  have HG4 := Lib.hid hg4
  have HR := Lib.hid hr
  have hbs : w.heap.size ≤ g2 ∧ g2 < g3 ∧ g3 < g4 ∧ g4 < r := by omega
  obtain ⟨hb1, hb2, hb3, hb40⟩ := hbs
  clear hC hf3 hf4 hc4 r1 r2 r3 hW3 hW4 hg2 hg3 hg4 hr hsz3
  go_enter Try.func5, Try.ntmps5
  go_wp2_with fail
  rw [← HW3.out, ← HW4.out, ← HR.out, ← HG4.out, ← HG3.out, ← HG2.out]
  refine (anyNetwork_any HX.out HF4.out (by omega) (by omega) (by omega) HC4.out).mono ?_
  rintro e w5 ⟨qn, N, cn, pn, L, cp, l, n5, rfl, hN, h16, ho, hfo, h20, -, a5, b5, hc5, hg5, hz⟩
  subst hN
  obtain ⟨M, rfl, rfl⟩ : ∃ M : Net, l = M.nodes ∧ L = M.fibers := ⟨⟨l, L⟩, rfl, rfl⟩
  obtain ⟨base, hbase⟩ : ∃ b, b = W4.heap.size := ⟨_, rfl⟩
  rw [← hbase] at ho hfo
  have hnt : NetOw w5 base (.agg #[.slice qn M.nodes.length cn, .slice pn M.fibers.length cp]) M := ⟨qn, cn, pn, cp, rfl, ho, hfo, h16, h20, hz⟩
  have hrb : r < base := by omega
  have hb4 : g4 < base := by omega
  have hf5 := freshGrown HF4.out hg5 (by omega)
  obtain ⟨bN, hbN⟩ : ∃ b, b = w5.heap.size := ⟨_, rfl⟩
  obtain ⟨W6, hW6⟩ : ∃ W, W = w5.alloc (.cells #[.slice qn M.nodes.length cn, .slice pn M.fibers.length cp] 27) := ⟨_, rfl⟩
  have hf6 : Fresh w5 W6 := by rw [hW6]; exact fnew (frefl _) _
  have HB6 : Hid (RowAt W6 bN 27 [.slice qn M.nodes.length cn, .slice pn M.fibers.length cp]) := by rw [hW6, hbN]; exact RowAt.new _ _ _
  have hs5 : base ≤ bN := by have := hg5.size; omega
  have hs6 : base ≤ W6.heap.size := by have := hf6.size; omega
  have HF6 := Lib.hid (fstep hf5 hf6)
  have HC6 := Lib.hid (hc5.keep hf6)
  have HY2 := Lib.hid ((HZ2.out.grown hg5 (by omega)).keep hf6)
  have HY3 := Lib.hid ((HZ3.out.grown hg5 (by omega)).keep hf6)
  have HY4 := Lib.hid ((HZ4.out.grown hg5 (by omega)).keep hf6)
  have HNT := Lib.hid (hnt.keep hf6)
  have HW6 := Lib.hid hW6
  have HBN := Lib.hid hbN
  have c0 := HB6.out.cell (i := 0) rfl
  have c1 := HB6.out.cell (i := 1) rfl
  clear ho hfo hz hc5 hg5 hnt hf5 hf6 hW6 hbN hbase hs4 HZ2 HZ3 HZ4 HC4
  go_wp2_with fail
  rw [← HBN.out, ← HW6.out]
  refine (anyRoute_any HX.out HF6.out (by omega) (by omega) (by omega) HC6.out base qn pn cn cp M HNT.out hrb).mono ?_
  rintro e w7 ⟨sA, qA, cA, lA, n7, rfl, hlA, hrA, a7, b7, hc7, hg7⟩
  obtain ⟨bR, hbR⟩ : ∃ b, b = w7.heap.size := ⟨_, rfl⟩
  obtain ⟨W8, hW8⟩ : ∃ W, W = w7.alloc (.cells #[.int .i64 sA, .slice qA lA.length cA] 30) := ⟨_, rfl⟩
  have hf8 : Fresh w7 W8 := by rw [hW8]; exact fnew (frefl _) _
  have hs7 : base ≤ bR := by have := hg7.size; omega
  have HS8 : Hid (DdSt w W8 r (.slice p xs.length cap) g2 g3 g4 bN bR base qn pn cn cp M sA qA cA lA n7) :=
    ⟨fstep (freshGrown HF6.out hg7 (by omega)) hf8, hc7.keep hf8, (HY2.out.grown hg7 (by omega)).keep hf8, (HY3.out.grown hg7 (by omega)).keep hf8, (HY4.out.grown hg7 (by omega)).keep hf8, (HB6.out.grown hg7 (by omega)).keep hf8, by rw [hW8, hbR]; exact RowAt.new _ _ _,
      (HNT.out.grown hg7 hrb).keep hf8, ((row_rt hrA).mono hs6).keep hf8, by have := hg7.size; have := hf8.size; omega⟩
  have HSA : Hid (SmRt (sA, lA)) := by show lA.length ≤ 1048576; omega
  have HW8 := Lib.hid hW8
  have HBR := Lib.hid hbR
  clear hc7 hg7 hrA hf8 hW8 hbR c0 c1 HB6 HC6 HY2 HY3 HY4 HNT
  go_upto_region 4 with fail
  rw [← HW8.out, ← HBR.out]
  have c0 := HS8.out.bn.cell (i := 0) rfl
  have c1 := HS8.out.bn.cell (i := 1) rfl
  have d0 := HS8.out.br.cell (i := 0) rfl
  have d1 := HS8.out.br.cell (i := 1) rfl
  have HGD := Lib.hid (l4Good_any _ M sA qA cA lA W8 HS8.out.nt.net (by have := HS8.out.ra; obtain ⟨q', c', hv, ho⟩ := this; cases hv; exact ho.ints) HSA.out)
  obtain ⟨ga, hga⟩ : ∃ g, g = (netB M && isVis M sA lA) := ⟨_, rfl⟩
  rw [← hga] at HGD
  have HGA := Lib.hid hga
  clear hga
  go_wp2_with fail
  refine (HGD.out).mono ?_
  rintro e w9 ⟨rfl, hf9⟩
  have HS9 := Lib.hid (HS8.out.fresh hf9)
  clear hf9 c0 c1 d0 d1
  cases ga with
  | false =>
    go_upto_region 8 with fail
    refine hd_start (n := 9) (S := fun w' => RowAt w' bN 27 [.slice qn M.nodes.length cn, .slice pn M.fibers.length cp] ∧ RowAt w' bR 30 [.int .i64 sA, .slice qA lA.length cA]) (by kernel_rfl) (by kernel_rfl) ⟨HS9.out.bn.keep (fdrew (frefl _)), HS9.out.br.keep (fdrew (frefl _))⟩ (fun hHeld => ?_)
    obtain ⟨d0, hd0⟩ : ∃ W, W = World.drew w9 := ⟨_, rfl⟩
    rw [← hd0] at hHeld ⊢
    have HD := Lib.hid (HS9.out.fresh (w' := d0) (by rw [hd0]; exact fdrew (frefl _)))
    clear hd0
    refine hd_tk (i := 0) (v := ?_) rfl ?_ ?_
    rotate_left
    · (intro w hSw; have t0 := hSw.1.cell (i := 0) rfl; have t1 := hSw.1.cell (i := 1) rfl; go_simp; first | done | with_reducible rfl)
    try simp only [PU]
    refine hd_tk (i := 1) (v := ?_) rfl ?_ ?_
    rotate_left
    · (intro w hSw; have t0 := hSw.2.cell (i := 0) rfl; have t1 := hSw.2.cell (i := 1) rfl; go_simp; first | done | with_reducible rfl)
    try simp only [PU]
    refine hd_tk (i := 2) (v := ?_) rfl ?_ ?_
    rotate_left
    · (intro w hSw; (try dsimp only at hSw); go_simp; first | done | with_reducible rfl)
    try simp only [PU]
    refine hd_tk (i := 3) (v := ?_) rfl ?_ ?_
    rotate_left
    · (intro w hSw; have t0 := hSw.1.cell (i := 0) rfl; have t1 := hSw.1.cell (i := 1) rfl; go_simp; first | done | with_reducible rfl)
    try simp only [PU]
    refine hd_tk (i := 5) (v := ?_) rfl ?_ ?_
    rotate_left
    · (intro w hSw; (try dsimp only at hSw); go_simp; first | done | with_reducible rfl)
    try simp only [PU]
    refine hd_one (i := 4) rfl (by kernel_rfl) (by kernel_rfl) (fun K hK => ?_)
    go_simp
    go_at_call 11
    refine (anyRoute_any HX.out HD.out.fr (by omega) (by omega) (by omega) HD.out.cu base qn pn cn cp M HD.out.nt (by omega)).mono ?_
    rintro e wb ⟨sB, qB, cB, lB, nb, rfl, hlB, hrB, ab, bb, hcb, hgb⟩
    have HDB := Lib.hid (HD.out.grown (by omega) (by omega) (by omega) (by omega) (by omega) (by omega) (by omega) hgb hcb)
    have HRB : Hid (RtOwn wb base (.agg #[.int .i64 sB, .slice qB lB.length cB]) (sB, lB)) := (row_rt hrB).mono (by have := HD.out.lo; omega)
    have HSB : Hid (SmRt (sB, lB)) := by show lB.length ≤ 1048576; omega
    clear hcb hgb hrB
    go_wp2_with fail
    refine hK.out _ _ ⟨HDB.out.bn, HDB.out.br⟩ (fun hHeld => ?_)
    clear hK K
    try simp only [PU]
    refine hd_one (i := 6) rfl (by kernel_rfl) (by kernel_rfl) (fun K hK => ?_)
    go_simp
    go_at_call 17
    refine (kind7_any HX.out HDB.out.fr (by omega) (by omega) (by omega) HDB.out.cu).mono ?_
    rintro e wk ⟨kk, nk, -, rfl, ak, bk, hck, hgk⟩
    have HDK := Lib.hid (HDB.out.grown (by omega) (by omega) (by omega) (by omega) (by omega) (by omega) (by omega) hgk hck)
    have HRK := Lib.hid (HRB.out.grownR hgk (by omega))
    clear hck hgk
    go_wp2_with fail
    refine hK.out _ _ ⟨HDK.out.bn, HDK.out.br⟩ (fun hHeld => ?_)
    clear hK K
    try simp only [PU]
    have z20 := HDK.out.z2.cell (i := 0) rfl
    have z21 := HDK.out.z2.cell (i := 1) rfl
    have y20 := HDK.out.z2.frozen 0
    have y21 := HDK.out.z2.frozen 1
    have hz3 := (HDK.out.z3.setOther (o := 0) (by omega : g3 ≠ g2) (.slice qn M.nodes.length cn)).setOther (o := 1) (by omega : g3 ≠ g2) (.slice pn M.fibers.length cp)
    have z30 := hz3.cell (i := 0) rfl
    have z31 := hz3.cell (i := 1) rfl
    have y30 := hz3.frozen 0
    have y31 := hz3.frozen 1
    have hz4 := (((HDK.out.z4.setOther (o := 0) (by omega : g4 ≠ g2) (.slice qn M.nodes.length cn)).setOther (o := 1) (by omega : g4 ≠ g2) (.slice pn M.fibers.length cp)).setOther (o := 0) (by omega : g4 ≠ g3) (.int .i64 sA)).setOther (o := 1) (by omega : g4 ≠ g3) (.slice qA lA.length cA)
    have z40 := hz4.cell (i := 0) rfl
    have z41 := hz4.cell (i := 1) rfl
    have y40 := hz4.frozen 0
    have y41 := hz4.frozen 1
    clear hz3 hz4
    obtain ⟨Wf, hWf, e2, e3, e4, HNF, HAF, HBF, hff⟩ := dd_end HDK.out hb1 hb2 hb3 hb4 HRK.out
    have k20 := e2.cell (i := 0) rfl
    have k21 := e2.cell (i := 1) rfl
    have k30 := e3.cell (i := 0) rfl
    have k31 := e3.cell (i := 1) rfl
    have k40 := e4.cell (i := 0) rfl
    have k41 := e4.cell (i := 1) rfl
    have HNF := Lib.hid HNF
    have HAF := Lib.hid HAF
    have HBF := Lib.hid HBF
    have HFF := Lib.hid hff
    have HWF := Lib.hid hWf
    clear e2 e3 e4 hff hWf
    refine hd_one (i := 7) rfl (by kernel_rfl) (by kernel_rfl) (fun K hK => ?_)
    go_simp
    refine hK.out _ _ ?_ (fun hHeld => ?_)
    · exact ⟨((HDK.out.bn.setOther (o := 0) (by omega) _).setOther (o := 1) (by omega) _), ((HDK.out.br.setOther (o := 0) (by omega) _).setOther (o := 1) (by omega) _)⟩
    clear hK K
    try simp only [PU]
    refine hd_one (i := 8) rfl (by kernel_rfl) (by kernel_rfl) (fun K hK => ?_)
    go_simp
    refine hK.out _ _ ?_ (fun hHeld => ?_)
    · exact ⟨((((HDK.out.bn.setOther (o := 0) (by omega) _).setOther (o := 1) (by omega) _).setOther (o := 0) (by omega) _).setOther (o := 1) (by omega) _), ((((HDK.out.br.setOther (o := 0) (by omega) _).setOther (o := 1) (by omega) _).setOther (o := 0) (by omega) _).setOther (o := 1) (by omega) _)⟩
    clear hK K
    try simp only [PU]
    refine hd_done (by kernel_rfl) ?_
    clear hHeld
    simp only [List.drop_succ_cons, List.drop_zero]
    go_wp2
    rw [← HWF.out]
    refine bodyPost_ret (v := .tuple #[.agg #[.slice qn M.nodes.length cn, .slice pn M.fibers.length cp], .agg #[.int .i64 sA, .slice qA lA.length cA], .agg #[.int .i64 sB, .slice qB lB.length cB], .int .i64 kk]) (by simp [results, Try.results5, go_sem, k20, k21, k30, k31, k40, k41]) rfl ?_
    exact ⟨_, M, _, (sA, lA), _, (sB, lB), kk, rfl, HNF.out, HAF.out.rtIn HSA.out, HBF.out.rtIn HSB.out, HFF.out⟩
  | true =>
    go_wp2_with fail
    refine (one_any HX.out 8 HS9.out.fr (by omega) (by omega) (by omega) (by omega) HS9.out.cu).mono ?_
    rintro e w10 ⟨ob, n10, rfl, a10, b10, hc10, hg10⟩
    have HS10 := Lib.hid (HS9.out.grown (by omega) (by omega) (by omega) (by omega) (by omega) (by omega) (by omega) hg10 hc10)
    clear hc10 hg10
    cases ob with
    | true =>
      go_upto_region 8 with fail
      refine hd_start (n := 9) (S := fun w' => RowAt w' bN 27 [.slice qn M.nodes.length cn, .slice pn M.fibers.length cp] ∧ RowAt w' bR 30 [.int .i64 sA, .slice qA lA.length cA]) (by kernel_rfl) (by kernel_rfl) ⟨HS10.out.bn.keep (fdrew (frefl _)), HS10.out.br.keep (fdrew (frefl _))⟩ (fun hHeld => ?_)
      obtain ⟨d0, hd0⟩ : ∃ W, W = World.drew w10 := ⟨_, rfl⟩
      rw [← hd0] at hHeld ⊢
      have HD := Lib.hid (HS10.out.fresh (w' := d0) (by rw [hd0]; exact fdrew (frefl _)))
      clear hd0
      refine hd_tk (i := 0) (v := ?_) rfl ?_ ?_
      rotate_left
      · (intro w hSw; have t0 := hSw.1.cell (i := 0) rfl; have t1 := hSw.1.cell (i := 1) rfl; go_simp; first | done | with_reducible rfl)
      try simp only [PU]
      refine hd_tk (i := 1) (v := ?_) rfl ?_ ?_
      rotate_left
      · (intro w hSw; have t0 := hSw.2.cell (i := 0) rfl; have t1 := hSw.2.cell (i := 1) rfl; go_simp; first | done | with_reducible rfl)
      try simp only [PU]
      refine hd_tk (i := 2) (v := ?_) rfl ?_ ?_
      rotate_left
      · (intro w hSw; (try dsimp only at hSw); go_simp; first | done | with_reducible rfl)
      try simp only [PU]
      refine hd_tk (i := 3) (v := ?_) rfl ?_ ?_
      rotate_left
      · (intro w hSw; have t0 := hSw.1.cell (i := 0) rfl; have t1 := hSw.1.cell (i := 1) rfl; go_simp; first | done | with_reducible rfl)
      try simp only [PU]
      refine hd_tk (i := 5) (v := ?_) rfl ?_ ?_
      rotate_left
      · (intro w hSw; (try dsimp only at hSw); go_simp; first | done | with_reducible rfl)
      try simp only [PU]
      refine hd_one (i := 4) rfl (by kernel_rfl) (by kernel_rfl) (fun K hK => ?_)
      go_simp
      go_at_call 11
      refine (anyRoute_any HX.out HD.out.fr (by omega) (by omega) (by omega) HD.out.cu base qn pn cn cp M HD.out.nt (by omega)).mono ?_
      rintro e wb ⟨sB, qB, cB, lB, nb, rfl, hlB, hrB, ab, bb, hcb, hgb⟩
      have HDB := Lib.hid (HD.out.grown (by omega) (by omega) (by omega) (by omega) (by omega) (by omega) (by omega) hgb hcb)
      have HRB : Hid (RtOwn wb base (.agg #[.int .i64 sB, .slice qB lB.length cB]) (sB, lB)) := (row_rt hrB).mono (by have := HD.out.lo; omega)
      have HSB : Hid (SmRt (sB, lB)) := by show lB.length ≤ 1048576; omega
      clear hcb hgb hrB
      go_wp2_with fail
      refine hK.out _ _ ⟨HDB.out.bn, HDB.out.br⟩ (fun hHeld => ?_)
      clear hK K
      try simp only [PU]
      refine hd_one (i := 6) rfl (by kernel_rfl) (by kernel_rfl) (fun K hK => ?_)
      go_simp
      go_at_call 17
      refine (kind7_any HX.out HDB.out.fr (by omega) (by omega) (by omega) HDB.out.cu).mono ?_
      rintro e wk ⟨kk, nk, -, rfl, ak, bk, hck, hgk⟩
      have HDK := Lib.hid (HDB.out.grown (by omega) (by omega) (by omega) (by omega) (by omega) (by omega) (by omega) hgk hck)
      have HRK := Lib.hid (HRB.out.grownR hgk (by omega))
      clear hck hgk
      go_wp2_with fail
      refine hK.out _ _ ⟨HDK.out.bn, HDK.out.br⟩ (fun hHeld => ?_)
      clear hK K
      try simp only [PU]
      have z20 := HDK.out.z2.cell (i := 0) rfl
      have z21 := HDK.out.z2.cell (i := 1) rfl
      have y20 := HDK.out.z2.frozen 0
      have y21 := HDK.out.z2.frozen 1
      have hz3 := (HDK.out.z3.setOther (o := 0) (by omega : g3 ≠ g2) (.slice qn M.nodes.length cn)).setOther (o := 1) (by omega : g3 ≠ g2) (.slice pn M.fibers.length cp)
      have z30 := hz3.cell (i := 0) rfl
      have z31 := hz3.cell (i := 1) rfl
      have y30 := hz3.frozen 0
      have y31 := hz3.frozen 1
      have hz4 := (((HDK.out.z4.setOther (o := 0) (by omega : g4 ≠ g2) (.slice qn M.nodes.length cn)).setOther (o := 1) (by omega : g4 ≠ g2) (.slice pn M.fibers.length cp)).setOther (o := 0) (by omega : g4 ≠ g3) (.int .i64 sA)).setOther (o := 1) (by omega : g4 ≠ g3) (.slice qA lA.length cA)
      have z40 := hz4.cell (i := 0) rfl
      have z41 := hz4.cell (i := 1) rfl
      have y40 := hz4.frozen 0
      have y41 := hz4.frozen 1
      clear hz3 hz4
      obtain ⟨Wf, hWf, e2, e3, e4, HNF, HAF, HBF, hff⟩ := dd_end HDK.out hb1 hb2 hb3 hb4 HRK.out
      have k20 := e2.cell (i := 0) rfl
      have k21 := e2.cell (i := 1) rfl
      have k30 := e3.cell (i := 0) rfl
      have k31 := e3.cell (i := 1) rfl
      have k40 := e4.cell (i := 0) rfl
      have k41 := e4.cell (i := 1) rfl
      have HNF := Lib.hid HNF
      have HAF := Lib.hid HAF
      have HBF := Lib.hid HBF
      have HFF := Lib.hid hff
      have HWF := Lib.hid hWf
      clear e2 e3 e4 hff hWf
      refine hd_one (i := 7) rfl (by kernel_rfl) (by kernel_rfl) (fun K hK => ?_)
      go_simp
      refine hK.out _ _ ?_ (fun hHeld => ?_)
      · exact ⟨((HDK.out.bn.setOther (o := 0) (by omega) _).setOther (o := 1) (by omega) _), ((HDK.out.br.setOther (o := 0) (by omega) _).setOther (o := 1) (by omega) _)⟩
      clear hK K
      try simp only [PU]
      refine hd_one (i := 8) rfl (by kernel_rfl) (by kernel_rfl) (fun K hK => ?_)
      go_simp
      refine hK.out _ _ ?_ (fun hHeld => ?_)
      · exact ⟨((((HDK.out.bn.setOther (o := 0) (by omega) _).setOther (o := 1) (by omega) _).setOther (o := 0) (by omega) _).setOther (o := 1) (by omega) _), ((((HDK.out.br.setOther (o := 0) (by omega) _).setOther (o := 1) (by omega) _).setOther (o := 0) (by omega) _).setOther (o := 1) (by omega) _)⟩
      clear hK K
      try simp only [PU]
      refine hd_done (by kernel_rfl) ?_
      clear hHeld
      simp only [List.drop_succ_cons, List.drop_zero]
      go_wp2
      rw [← HWF.out]
      refine bodyPost_ret (v := .tuple #[.agg #[.slice qn M.nodes.length cn, .slice pn M.fibers.length cp], .agg #[.int .i64 sA, .slice qA lA.length cA], .agg #[.int .i64 sB, .slice qB lB.length cB], .int .i64 kk]) (by simp [results, Try.results5, go_sem, k20, k21, k30, k31, k40, k41]) rfl ?_
      exact ⟨_, M, _, (sA, lA), _, (sB, lB), kk, rfl, HNF.out, HAF.out.rtIn HSA.out, HBF.out.rtIn HSB.out, HFF.out⟩
    | false =>
      have hgg := HGA.out.symm
      rw [Bool.and_eq_true] at hgg
      obtain ⟨hnb, hvb⟩ := hgg
      have HIA : Hid (∀ W, Fresh w10 W → Ints W qA lA) := fun W hW => by have := HS10.out.ra; obtain ⟨q', c', hv, ho⟩ := this; cases hv; exact ho.ints.keep hW
      obtain ⟨en, hen⟩ : ∃ en, en = endW M (sA, lA) := ⟨_, rfl⟩
      have HEND : Hid (∀ W, Fresh w10 W → Calls Try.prog 15 #[.agg #[.slice qn M.nodes.length cn, .slice pn M.fibers.length cp], .agg #[.int .i64 sA, .slice qA lA.length cA]] W fun e w' => e = .returned (.int .i64 en) ∧ Fresh W w') := fun W hW => by
        rw [hen]; exact l4End_any _ M sA qA cA lA W (HS10.out.fresh hW).nt.net hnb (HIA.out W hW) hvb
      have HALL : Hid (∀ W, Fresh w10 W → Calls Try.prog 14 #[.agg #[.slice qn M.nodes.length cn, .slice pn M.fibers.length cp], .int .i64 sA, .int .i64 en] W (OutA M sA en W)) := fun W hW => specAllRoutes_any _ M sA en W (HS10.out.fresh hW).nt.net
      have HVG := Lib.hid (vis_good hvb)
      rw [← hen] at HVG
      have HNB := Lib.hid hnb
      have c0 := HS10.out.bn.cell (i := 0) rfl
      have c1 := HS10.out.bn.cell (i := 1) rfl
      have d0 := HS10.out.br.cell (i := 0) rfl
      have d1 := HS10.out.br.cell (i := 1) rfl
      clear hnb hvb hen
      go_upto_region 5 with fail
      have HSS : Fresh w10 w10 ∧ w10.cell? ⟨bN, 0, none⟩ = some (.slice qn M.nodes.length cn) ∧ w10.cell? ⟨bN, 1, none⟩ = some (.slice pn M.fibers.length cp) ∧ w10.cell? ⟨bR, 0, none⟩ = some (.int .i64 sA) ∧ w10.cell? ⟨bR, 1, none⟩ = some (.slice qA lA.length cA) := ⟨frefl _, c0, c1, d0, d1⟩
      go_region_held3 (fun w' => Fresh w10 w' ∧ w'.cell? ⟨bN, 0, none⟩ = some (.slice qn M.nodes.length cn) ∧ w'.cell? ⟨bN, 1, none⟩ = some (.slice pn M.fibers.length cp) ∧ w'.cell? ⟨bR, 0, none⟩ = some (.int .i64 sA) ∧ w'.cell? ⟨bR, 1, none⟩ = some (.slice qA lA.length cA))
        (first | assumption | exact keepc4 (by assumption) (by assumption) | exact keepc4 (by assumption) (fdrew (frefl _)) | exact keepc4 (by assumption) (frefl _))
        (first | (go_at_call 15; refine (HEND.out _ (And.left (by assumption))).mono ?_; rintro e w11 ⟨rfl, hb11⟩) | (go_at_call 14; refine (HALL.out _ (And.left (by assumption))).mono ?_; rintro e wl ⟨V, ls, rfl, hrl, hla, hb12⟩; have HRL := Lib.hid hrl; have HLA := Lib.hid hla; clear hrl hla))
      have hf12 : Fresh w10 wl := fstep (fstep (fdrew (frefl _)) hb11) hb12
      have HS12 := Lib.hid (HS10.out.fresh hf12)
      have hsz11 : w10.heap.size ≤ w11.heap.size := hb11.size
      clear hb11 hb12 HSS c0 c1 d0 d1 hf12
      have hb11s : base ≤ w11.heap.size := Nat.le_trans HS10.out.lo hsz11
      clear hsz11
      obtain ⟨ok, hok⟩ : ∃ ok, ok = okA M sA en := ⟨_, rfl⟩
      rw [← hok]
      have HOK := Lib.hid hok
      clear hok
      cases ok with
      | false =>
        go_upto_region 8 with fail
        refine hd_start (n := 9) (S := fun w' => RowAt w' bN 27 [.slice qn M.nodes.length cn, .slice pn M.fibers.length cp] ∧ RowAt w' bR 30 [.int .i64 sA, .slice qA lA.length cA]) (by kernel_rfl) (by kernel_rfl) ⟨HS12.out.bn.keep (fdrew (frefl _)), HS12.out.br.keep (fdrew (frefl _))⟩ (fun hHeld => ?_)
        obtain ⟨d0, hd0⟩ : ∃ W, W = World.drew wl := ⟨_, rfl⟩
        rw [← hd0] at hHeld ⊢
        have HD := Lib.hid (HS12.out.fresh (w' := d0) (by rw [hd0]; exact fdrew (frefl _)))
        clear hd0
        refine hd_tk (i := 0) (v := ?_) rfl ?_ ?_
        rotate_left
        · (intro w hSw; have t0 := hSw.1.cell (i := 0) rfl; have t1 := hSw.1.cell (i := 1) rfl; go_simp; first | done | with_reducible rfl)
        try simp only [PU]
        refine hd_tk (i := 1) (v := ?_) rfl ?_ ?_
        rotate_left
        · (intro w hSw; have t0 := hSw.2.cell (i := 0) rfl; have t1 := hSw.2.cell (i := 1) rfl; go_simp; first | done | with_reducible rfl)
        try simp only [PU]
        refine hd_tk (i := 2) (v := ?_) rfl ?_ ?_
        rotate_left
        · (intro w hSw; (try dsimp only at hSw); go_simp; first | done | with_reducible rfl)
        try simp only [PU]
        refine hd_tk (i := 3) (v := ?_) rfl ?_ ?_
        rotate_left
        · (intro w hSw; have t0 := hSw.1.cell (i := 0) rfl; have t1 := hSw.1.cell (i := 1) rfl; go_simp; first | done | with_reducible rfl)
        try simp only [PU]
        refine hd_tk (i := 5) (v := ?_) rfl ?_ ?_
        rotate_left
        · (intro w hSw; (try dsimp only at hSw); go_simp; first | done | with_reducible rfl)
        try simp only [PU]
        refine hd_one (i := 4) rfl (by kernel_rfl) (by kernel_rfl) (fun K hK => ?_)
        go_simp
        go_at_call 11
        refine (anyRoute_any HX.out HD.out.fr (by omega) (by omega) (by omega) HD.out.cu base qn pn cn cp M HD.out.nt (by omega)).mono ?_
        rintro e wb ⟨sB, qB, cB, lB, nb, rfl, hlB, hrB, ab, bb, hcb, hgb⟩
        have HDB := Lib.hid (HD.out.grown (by omega) (by omega) (by omega) (by omega) (by omega) (by omega) (by omega) hgb hcb)
        have HRB : Hid (RtOwn wb base (.agg #[.int .i64 sB, .slice qB lB.length cB]) (sB, lB)) := (row_rt hrB).mono (by have := HD.out.lo; omega)
        have HSB : Hid (SmRt (sB, lB)) := by show lB.length ≤ 1048576; omega
        clear hcb hgb hrB
        go_wp2_with fail
        refine hK.out _ _ ⟨HDB.out.bn, HDB.out.br⟩ (fun hHeld => ?_)
        clear hK K
        try simp only [PU]
        refine hd_one (i := 6) rfl (by kernel_rfl) (by kernel_rfl) (fun K hK => ?_)
        go_simp
        go_at_call 17
        refine (kind7_any HX.out HDB.out.fr (by omega) (by omega) (by omega) HDB.out.cu).mono ?_
        rintro e wk ⟨kk, nk, -, rfl, ak, bk, hck, hgk⟩
        have HDK := Lib.hid (HDB.out.grown (by omega) (by omega) (by omega) (by omega) (by omega) (by omega) (by omega) hgk hck)
        have HRK := Lib.hid (HRB.out.grownR hgk (by omega))
        clear hck hgk
        go_wp2_with fail
        refine hK.out _ _ ⟨HDK.out.bn, HDK.out.br⟩ (fun hHeld => ?_)
        clear hK K
        try simp only [PU]
        have z20 := HDK.out.z2.cell (i := 0) rfl
        have z21 := HDK.out.z2.cell (i := 1) rfl
        have y20 := HDK.out.z2.frozen 0
        have y21 := HDK.out.z2.frozen 1
        have hz3 := (HDK.out.z3.setOther (o := 0) (by omega : g3 ≠ g2) (.slice qn M.nodes.length cn)).setOther (o := 1) (by omega : g3 ≠ g2) (.slice pn M.fibers.length cp)
        have z30 := hz3.cell (i := 0) rfl
        have z31 := hz3.cell (i := 1) rfl
        have y30 := hz3.frozen 0
        have y31 := hz3.frozen 1
        have hz4 := (((HDK.out.z4.setOther (o := 0) (by omega : g4 ≠ g2) (.slice qn M.nodes.length cn)).setOther (o := 1) (by omega : g4 ≠ g2) (.slice pn M.fibers.length cp)).setOther (o := 0) (by omega : g4 ≠ g3) (.int .i64 sA)).setOther (o := 1) (by omega : g4 ≠ g3) (.slice qA lA.length cA)
        have z40 := hz4.cell (i := 0) rfl
        have z41 := hz4.cell (i := 1) rfl
        have y40 := hz4.frozen 0
        have y41 := hz4.frozen 1
        clear hz3 hz4
        obtain ⟨Wf, hWf, e2, e3, e4, HNF, HAF, HBF, hff⟩ := dd_end HDK.out hb1 hb2 hb3 hb4 HRK.out
        have k20 := e2.cell (i := 0) rfl
        have k21 := e2.cell (i := 1) rfl
        have k30 := e3.cell (i := 0) rfl
        have k31 := e3.cell (i := 1) rfl
        have k40 := e4.cell (i := 0) rfl
        have k41 := e4.cell (i := 1) rfl
        have HNF := Lib.hid HNF
        have HAF := Lib.hid HAF
        have HBF := Lib.hid HBF
        have HFF := Lib.hid hff
        have HWF := Lib.hid hWf
        clear e2 e3 e4 hff hWf
        refine hd_one (i := 7) rfl (by kernel_rfl) (by kernel_rfl) (fun K hK => ?_)
        go_simp
        refine hK.out _ _ ?_ (fun hHeld => ?_)
        · exact ⟨((HDK.out.bn.setOther (o := 0) (by omega) _).setOther (o := 1) (by omega) _), ((HDK.out.br.setOther (o := 0) (by omega) _).setOther (o := 1) (by omega) _)⟩
        clear hK K
        try simp only [PU]
        refine hd_one (i := 8) rfl (by kernel_rfl) (by kernel_rfl) (fun K hK => ?_)
        go_simp
        refine hK.out _ _ ?_ (fun hHeld => ?_)
        · exact ⟨((((HDK.out.bn.setOther (o := 0) (by omega) _).setOther (o := 1) (by omega) _).setOther (o := 0) (by omega) _).setOther (o := 1) (by omega) _), ((((HDK.out.br.setOther (o := 0) (by omega) _).setOther (o := 1) (by omega) _).setOther (o := 0) (by omega) _).setOther (o := 1) (by omega) _)⟩
        clear hK K
        try simp only [PU]
        refine hd_done (by kernel_rfl) ?_
        clear hHeld
        simp only [List.drop_succ_cons, List.drop_zero]
        go_wp2
        rw [← HWF.out]
        refine bodyPost_ret (v := .tuple #[.agg #[.slice qn M.nodes.length cn, .slice pn M.fibers.length cp], .agg #[.int .i64 sA, .slice qA lA.length cA], .agg #[.int .i64 sB, .slice qB lB.length cB], .int .i64 kk]) (by simp [results, Try.results5, go_sem, k20, k21, k30, k31, k40, k41]) rfl ?_
        exact ⟨_, M, _, (sA, lA), _, (sB, lB), kk, rfl, HNF.out, HAF.out.rtIn HSA.out, HBF.out.rtIn HSB.out, HFF.out⟩
      | true =>
        have hla2 : ls.map LR.val = allR M sA en := by have := HLA.out; unfold allA at this; rw [← HOK.out] at this; exact this
        obtain ⟨_, hA1, hA2, hA3⟩ := pairB_in (okA_pair HOK.out.symm)
        have hln : 0 < ls.length := by
          have hm := allR_all HNB.out hA1 hA3 HVG.out.2
          rw [← hla2] at hm
          have := List.length_pos_of_mem hm
          simpa using this
        have hl200 : ls.length ≤ 200 := by
          have h1 := HOK.out.symm
          unfold okA at h1
          rw [Bool.and_eq_true, decide_eq_true_eq, ← hla2, List.length_map] at h1
          exact h1.2
        have HSM : Hid (∀ y ∈ ls, SmRt (y.start, y.fibs)) := fun y hy => by
          have := (rts_small HNB.out hA1 (rts_good hla2) y hy).2
          show y.fibs.length ≤ 1048576
          omega
        obtain ⟨ql, cl, hv, hown, _, _⟩ := owns_cap HRL.out.row
        subst hv
        rcases hown with ⟨_, h0⟩ | ⟨ge, sp, hq, hge0, hrow⟩
        · exfalso
          have := congrArg List.length h0
          rw [flat_len lrC 2 (fun _ => rfl)] at this
          simp at this; omega
        subst hq
        obtain ⟨ES, hES⟩ : ∃ ES, ES = ls.flatMap lrC ++ sp := ⟨_, rfl⟩
        rw [← hES] at hrow
        have HES := Lib.hid hrow
        have HEL : Hid (∀ (j : Nat) (y : LR), ls[j]? = some y → ES[j * 2]? = some (.int .i64 y.start) ∧ ES[j * 2 + 1]? = some (.slice y.q y.fibs.length y.cap)) := fun j y hy => by
          have hjl := (List.getElem?_eq_some_iff.1 hy).1
          rw [hES]
          exact ⟨by rw [List.getElem?_append_left (by rw [flat_len lrC 2 (fun _ => rfl)]; omega)]; exact flat_get lrC 2 (fun _ => rfl) ls j 0 (by omega) y hy, by rw [List.getElem?_append_left (by rw [flat_len lrC 2 (fun _ => rfl)]; omega)]; exact flat_get lrC 2 (fun _ => rfl) ls j 1 (by omega) y hy⟩
        have hge : base ≤ ge := by omega
        clear hrow hES hla2 hA1 hA2 hA3 hge0
        go_upto_region 7 with fail
        refine hd_start (n := 13) (S := fun w' => RowAt w' bN 27 [.slice qn M.nodes.length cn, .slice pn M.fibers.length cp] ∧ RowAt w' bR 30 [.int .i64 sA, .slice qA lA.length cA] ∧ RowAt w' ge 30 ES) (by kernel_rfl) (by kernel_rfl) ⟨HS12.out.bn.keep (fdrew (frefl _)), HS12.out.br.keep (fdrew (frefl _)), HES.out.keep (fdrew (frefl _))⟩ (fun hHeld => ?_)
        obtain ⟨d0, hd0⟩ : ∃ W, W = World.drew wl := ⟨_, rfl⟩
        rw [← hd0] at hHeld ⊢
        have hfd : Fresh wl d0 := by rw [hd0]; exact fdrew (frefl _)
        have HD := Lib.hid (HS12.out.fresh hfd)
        have HED := Lib.hid (HES.out.keep hfd)
        have HLD := Lib.hid (HRL.out.keep hfd)
        clear hd0 hfd
        refine hd_tk (i := 0) (v := ?_) rfl ?_ ?_
        rotate_left
        · (intro w hSw; have t0 := hSw.1.cell (i := 0) rfl; have t1 := hSw.1.cell (i := 1) rfl; go_simp; first | done | with_reducible rfl)
        try simp only [PU]
        refine hd_tk (i := 1) (v := ?_) rfl ?_ ?_
        rotate_left
        · (intro w hSw; have t0 := hSw.2.1.cell (i := 0) rfl; have t1 := hSw.2.1.cell (i := 1) rfl; go_simp; first | done | with_reducible rfl)
        try simp only [PU]
        refine hd_tk (i := 2) (v := ?_) rfl ?_ ?_
        rotate_left
        · (intro w hSw; (try dsimp only at hSw); go_simp; first | done | with_reducible rfl)
        try simp only [PU]
        refine hd_tk (i := 3) (v := ?_) rfl ?_ ?_
        rotate_left
        · (intro w hSw; (try dsimp only at hSw); go_simp; first | done | with_reducible rfl)
        try simp only [PU]
        refine hd_tk (i := 4) (v := ?_) rfl ?_ ?_
        rotate_left
        · (intro w hSw; (try dsimp only at hSw); go_simp; first | done | with_reducible rfl)
        try simp only [PU]
        refine hd_tk (i := 5) (v := ?_) rfl ?_ ?_
        rotate_left
        · (intro w hSw; (try dsimp only at hSw); go_simp; first | done | with_reducible rfl)
        try simp only [PU]
        refine hd_tk (i := 9) (v := ?_) rfl ?_ ?_
        rotate_left
        · (intro w hSw; (try dsimp only at hSw); go_simp; first | done | with_reducible rfl)
        try simp only [PU]
        refine hd_one (i := 6) rfl (by kernel_rfl) (by kernel_rfl) (fun K hK => ?_)
        go_simp
        go_at_call 16
        refine (pick_any HX.out (ls.length : Int) HD.out.fr (by omega) (by omega) (by omega) (by omega) HD.out.cu).mono ?_
        rintro e wb ⟨x, nb, ⟨xb0, xb1⟩, rfl, ab, bb, hcb, hgb⟩
        have HDB := Lib.hid (HD.out.grown (by omega) (by omega) (by omega) (by omega) (by omega) (by omega) (by omega) hgb hcb)
        have HEB := Lib.hid (HED.out.grown hgb (by omega))
        obtain ⟨j, rfl⟩ := Int.eq_ofNat_of_zero_le xb0
        have hj : j < ls.length := by omega
        have hjz : (j : Int) < (ls.length : Int) := by omega
        obtain ⟨ge', y, hge', hy, hym, -, -⟩ := rts_at HLD.out hj
        cases hge'
        obtain ⟨he0, he1⟩ := HEL.out j y hy
        have HE0 := Lib.hid he0
        have HE1 := Lib.hid he1
        have HRB : Hid (RtOwn wb base (.agg #[.int .i64 y.start, .slice y.q y.fibs.length y.cap]) (y.start, y.fibs)) := RtOwn.grownR ⟨y.q, y.cap, rfl, (HLD.out.fib y hym).mono hb11s⟩ hgb (by omega)
        have HSB : Hid (SmRt (y.start, y.fibs)) := HSM.out y hym
        clear hcb hgb he0 he1 xb1 hy hym
        go_wp2_with fail
        refine hK.out _ _ ⟨HDB.out.bn, HDB.out.br, HEB.out⟩ (fun hHeld => ?_)
        clear hK K
        try simp only [PU]
        refine hd_tk (i := 7) (v := ?_) rfl ?_ ?_
        rotate_left
        · (intro w hSw; (try dsimp only at hSw); go_simp; first | done | with_reducible rfl)
        try simp only [PU]
        refine hd_tk (i := 8) (v := ?_) rfl ?_ ?_
        rotate_left
        · (intro w hSw; have t0 := hSw.2.2.cell HE0.out; have t1 := hSw.2.2.cell HE1.out; go_simp; first | done | with_reducible rfl)
        try simp only [PU]
        refine hd_one (i := 10) rfl (by kernel_rfl) (by kernel_rfl) (fun K hK => ?_)
        go_simp
        go_at_call 17
        refine (kind7_any HX.out HDB.out.fr (by omega) (by omega) (by omega) HDB.out.cu).mono ?_
        rintro e wk ⟨kk, nk, -, rfl, ak, bk, hck, hgk⟩
        have HDK := Lib.hid (HDB.out.grown (by omega) (by omega) (by omega) (by omega) (by omega) (by omega) (by omega) hgk hck)
        have HEK := Lib.hid (HEB.out.grown hgk (by omega))
        have HRK := Lib.hid (HRB.out.grownR hgk (by omega))
        clear hck hgk
        go_wp2_with fail
        refine hK.out _ _ ⟨HDK.out.bn, HDK.out.br, HEK.out⟩ (fun hHeld => ?_)
        clear hK K
        try simp only [PU]
        have z20 := HDK.out.z2.cell (i := 0) rfl
        have z21 := HDK.out.z2.cell (i := 1) rfl
        have y20 := HDK.out.z2.frozen 0
        have y21 := HDK.out.z2.frozen 1
        have hz3 := (HDK.out.z3.setOther (o := 0) (by omega : g3 ≠ g2) (.slice qn M.nodes.length cn)).setOther (o := 1) (by omega : g3 ≠ g2) (.slice pn M.fibers.length cp)
        have z30 := hz3.cell (i := 0) rfl
        have z31 := hz3.cell (i := 1) rfl
        have y30 := hz3.frozen 0
        have y31 := hz3.frozen 1
        have hz4 := (((HDK.out.z4.setOther (o := 0) (by omega : g4 ≠ g2) (.slice qn M.nodes.length cn)).setOther (o := 1) (by omega : g4 ≠ g2) (.slice pn M.fibers.length cp)).setOther (o := 0) (by omega : g4 ≠ g3) (.int .i64 sA)).setOther (o := 1) (by omega : g4 ≠ g3) (.slice qA lA.length cA)
        have z40 := hz4.cell (i := 0) rfl
        have z41 := hz4.cell (i := 1) rfl
        have y40 := hz4.frozen 0
        have y41 := hz4.frozen 1
        clear hz3 hz4
        obtain ⟨Wf, hWf, e2, e3, e4, HNF, HAF, HBF, hff⟩ := dd_end HDK.out hb1 hb2 hb3 hb4 HRK.out
        have k20 := e2.cell (i := 0) rfl
        have k21 := e2.cell (i := 1) rfl
        have k30 := e3.cell (i := 0) rfl
        have k31 := e3.cell (i := 1) rfl
        have k40 := e4.cell (i := 0) rfl
        have k41 := e4.cell (i := 1) rfl
        have HNF := Lib.hid HNF
        have HAF := Lib.hid HAF
        have HBF := Lib.hid HBF
        have HFF := Lib.hid hff
        have HWF := Lib.hid hWf
        clear e2 e3 e4 hff hWf
        refine hd_one (i := 11) rfl (by kernel_rfl) (by kernel_rfl) (fun K hK => ?_)
        go_simp
        refine hK.out _ _ ?_ (fun hHeld => ?_)
        · exact ⟨((HDK.out.bn.setOther (o := 0) (by omega) _).setOther (o := 1) (by omega) _), ((HDK.out.br.setOther (o := 0) (by omega) _).setOther (o := 1) (by omega) _), ((HEK.out.setOther (o := 0) (by omega) _).setOther (o := 1) (by omega) _)⟩
        clear hK K
        try simp only [PU]
        refine hd_one (i := 12) rfl (by kernel_rfl) (by kernel_rfl) (fun K hK => ?_)
        go_simp
        refine hK.out _ _ ?_ (fun hHeld => ?_)
        · exact ⟨((((HDK.out.bn.setOther (o := 0) (by omega) _).setOther (o := 1) (by omega) _).setOther (o := 0) (by omega) _).setOther (o := 1) (by omega) _), ((((HDK.out.br.setOther (o := 0) (by omega) _).setOther (o := 1) (by omega) _).setOther (o := 0) (by omega) _).setOther (o := 1) (by omega) _), ((((HEK.out.setOther (o := 0) (by omega) _).setOther (o := 1) (by omega) _).setOther (o := 0) (by omega) _).setOther (o := 1) (by omega) _)⟩
        clear hK K
        try simp only [PU]
        refine hd_done (by kernel_rfl) ?_
        clear hHeld
        simp only [List.drop_succ_cons, List.drop_zero]
        go_wp2
        rw [← HWF.out]
        refine bodyPost_ret (v := .tuple #[.agg #[.slice qn M.nodes.length cn, .slice pn M.fibers.length cp], .agg #[.int .i64 sA, .slice qA lA.length cA], .agg #[.int .i64 y.start, .slice y.q y.fibs.length y.cap], .int .i64 kk]) (by simp [results, Try.results5, go_sem, k20, k21, k30, k31, k40, k41]) rfl ?_
        exact ⟨_, M, _, (sA, lA), _, (y.start, y.fibs), kk, rfl, HNF.out, HAF.out.rtIn HSA.out, HBF.out.rtIn HSB.out, HFF.out⟩
end Go.Proofs.Ytlapicgeokjpjaa
