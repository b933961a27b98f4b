/- Contracts: any route is drawn, the reference's side. -/
import Derived.Test.YtlapicgeokjpjaaRd
namespace Go.Proofs.Ytlapicgeokjpjaa
open Go.RowKit Go.PlainAid

theorem RdSt.setS {W0 w wr : World} {r : Nat} {cv : Value} {bN bZ bR : Nat} {nt : List Value} {m s : Int} {V S : Value} {l z : List Int} (h : RdSt W0 w wr r cv bN bZ bR nt m s V l S z) (hW : W0.heap.size ≤ w.heap.size) (hrw : r < w.heap.size) (hR : w.heap.size ≤ bR) (hNR : bN ≠ bR) (hZR : bZ ≠ bR) (s' : Int) :
    RdSt W0 w (wr.setCell ⟨bR, 0, none⟩ (.int .i64 s')) r cv bN bZ bR nt m s' V l S z :=
  ⟨fset h.fr (by omega) _, grownOwn h.gr (grownSet _ _ _ _) hR, Cur.grown h.cu (grownSet _ _ _ _) (by omega), h.bn.setOther hNR _, h.zr.setOther hZR _, h.bx.set 0 _, owns_setO h.ro h.bx (by decide) 0, owns_setO h.se h.bx (by decide) 0, h.ne⟩
theorem RdSt.putV {W0 w wr : World} {r : Nat} {cv : Value} {bN bZ bR : Nat} {nt : List Value} {m s : Int} {V V' : Value} {l l' : List Int} (h : RdSt W0 w wr r cv bN bZ bR nt m s V l (.slice none 0 0) []) (hW : W0.heap.size ≤ w.heap.size) (hrw : r < w.heap.size) (hR : w.heap.size ≤ bR) (hNR : bN ≠ bR) (hZR : bZ ≠ bR) (ho : Row wr w.heap.size V' l') :
    RdSt W0 w (wr.setCell ⟨bR, 1, none⟩ V') r cv bN bZ bR nt m s V' l' (.slice none 0 0) [] :=
  ⟨fset h.fr (by omega) _, grownOwn h.gr (grownSet _ _ _ _) hR, Cur.grown h.cu (grownSet _ _ _ _) (by omega), h.bn.setOther hNR _, h.zr.setOther hZR _, h.bx.set 1 _, owns_setO ho h.bx (by decide) 1, owns_setO h.se h.bx (by decide) 1, fun k _ hk => by cases hk⟩
set_option maxHeartbeats 8000000 in
set_option maxRecDepth 100000 in
theorem anyRoute_any {W0 w : World} {r : Nat} {p : Option Addr} {cap : Nat} {xs : List Int} {n : Int} (hC : CodeAt W0 p xs) (hf : Fresh W0 w) (hr : W0.heap.size ≤ r) (h0 : 0 ≤ n) (h1 : n ≤ 274877906900) (hcur : Cur w r (.slice p xs.length cap) n)
    (base : Nat) (qn pn : Option Addr) (cn cp : Nat) (M : Net) (hM : NetOw w base (.agg #[.slice qn M.nodes.length cn, .slice pn M.fibers.length cp]) M) (hrb : r < base) :
    Calls Try.prog 11 #[.pointer (some ⟨r, 0, none⟩), .agg #[.slice qn M.nodes.length cn, .slice pn M.fibers.length cp]] w (OutRd w r (.slice p xs.length cap) n 20) := by
  have HX := Lib.hid hC
  have hrw : r < w.heap.size := by obtain ⟨_, hh⟩ := hcur; exact hh.lt
  obtain ⟨W2, hW2, hsz2, hf2, r1, r2⟩ := two_rows w [.slice qn M.nodes.length cn, .slice pn M.fibers.length cp] [.int .i64 0, .slice none 0 0] 27 30
  obtain ⟨bN, hbN⟩ : ∃ b, b = w.heap.size := ⟨_, rfl⟩
  obtain ⟨bZ, hbZ⟩ : ∃ b, b = w.heap.size + 1 := ⟨_, rfl⟩
  rw [← hbZ] at r2
  rw [← hbN] at r1
  have HF2 := Lib.hid (fstep hf hf2)
  have HRT := Lib.hid (route_any HX.out HF2.out hr h0 (by omega) (hcur.keep hf2) base qn pn cn cp M (hM.keep hf2) hrb)
  have HG2 := Lib.hid (grownFresh hf2 (some r))
  have HR1 := Lib.hid r1
  have HR2 := Lib.hid r2
  have HW2 := Lib.hid hW2
  have HBN := Lib.hid hbN
  have HBZ := Lib.hid hbZ
  have hbNw : w.heap.size ≤ bN ∧ w.heap.size ≤ bZ ∧ bN < bZ ∧ bZ < W2.heap.size := by omega
  obtain ⟨hb1, hb2, hb3, hb4⟩ := hbNw
  have c0 := r1.cell (i := 0) rfl
  have c1 := r1.cell (i := 1) rfl
  have hW0 : W0.heap.size ≤ w.heap.size := hf.size
  clear hC hcur hf hf2 r1 r2 hW2 hbN hbZ hM hsz2
  go_enter Try.func11, Try.ntmps11
  go_upto_region 1 with fail
  rw [← HW2.out, ← HBZ.out, ← HBN.out]
  go_wp2_with fail
  refine (HRT.out).mono ?_
  rintro e w3 ⟨s, qv, cv, l, n3, rfl, hl8, hro3, a3, b3, hc3, hg3⟩
  obtain ⟨W4, hW4⟩ : ∃ W, W = w3.alloc (.cells #[.int .i64 s, .slice qv l.length cv] 30) := ⟨_, rfl⟩
  obtain ⟨bR, hbR⟩ : ∃ b, b = w3.heap.size := ⟨_, rfl⟩
  have hf4 : Fresh w3 W4 := by rw [hW4]; exact fnew (frefl _) _
  have hx4 : RowAt W4 bR 30 [iv s, .slice qv l.length cv] := by rw [hW4, hbR]; exact RowAt.new _ _ _
  have hsz3 : W2.heap.size ≤ w3.heap.size := hg3.size
  have hnil4 : Row W4 w.heap.size (.slice none 0 0) [] := ⟨rfl, Or.inl ⟨rfl, rfl⟩⟩
  have HST4 : Hid (RdSt W0 w W4 r (.slice p xs.length cap) bN bZ bR [.slice qn M.nodes.length cn, .slice pn M.fibers.length cp] n3 s (.slice qv l.length cv) l (.slice none 0 0) []) :=
    ⟨fstep (freshGrown HF2.out hg3 hr) hf4, grownTrans (grownTrans HG2.out hg3) (grownFresh hf4 _), hc3.keep hf4, (HR1.out.grown hg3 (by omega)).keep hf4, (HR2.out.grown hg3 (by omega)).keep hf4, hx4, (hro3.mono (by omega)).keep hf4, hnil4, fun k _ hk => by cases hk⟩
  have hbR1 : bZ < bR := by omega
  have HW4 := Lib.hid hW4
  have HBR := Lib.hid hbR
  clear hc3 hg3 hW4 hf4 hx4 hbR hnil4 c0 c1 hsz3 hro3
  go_upto_region 2 with fail
  rw [← HW4.out, ← HBR.out]
  go_wp2_with fail
  refine (pick_any HX.out 16 HST4.out.fr hr (by omega) (by omega) (by omega) HST4.out.cu).mono ?_
  rintro e w6 ⟨x6, n6, ⟨x60, x61⟩, rfl, a6, b6, hc6, hg6⟩
  have HST6 := Lib.hid (HST4.out.grown hr (by omega) (by omega) (by omega) hrw hg6 hc6)
  have g0 := HST6.out.bx.cell (i := 0) rfl
  have g1 := HST6.out.bx.cell (i := 1) rfl
  have f0 := HST6.out.bx.frozen 0
  have f1 := HST6.out.bx.frozen 1
  clear hc6 hg6
  by_cases hx0 : x6 = 0
  · subst hx0
    clear x60 x61
    go_wp2_with fail
    refine (pick_any HX.out 8 HST6.out.fr hr (by omega) (by omega) (by omega) HST6.out.cu).mono ?_
    rintro e w7 ⟨x7, n7, ⟨x70, x71⟩, rfl, a7, b7, hc7, hg7⟩
    have HST7 := Lib.hid (HST6.out.grown hr (by omega) (by omega) (by omega) hrw hg7 hc7)
    have hw7 : IntKind.i64.wrap (x7 - 1) = x7 - 1 := by rw [IntKind.wrap_i64]; omega
    clear hc7 hg7 g0 g1 f0 f1
    have g0 := HST7.out.bx.cell (i := 0) rfl
    have f0 := HST7.out.bx.frozen 0
    have HST8 := Lib.hid (HST7.out.setS hW0 hrw (by omega) (by omega) (by omega) (x7 - 1))
    go_upto_region 12 with fail
    obtain ⟨w8, hw8⟩ : ∃ W, W = w7.setCell ⟨bR, 0, none⟩ (.int .i64 (x7 - 1)) := ⟨_, rfl⟩
    rw [← hw8] at HST8 ⊢
    clear hw8 g0 f0 hw7
    have z0 := HST8.out.zr.cell (i := 0) rfl
    have z1 := HST8.out.zr.cell (i := 1) rfl
    have y0 := HST8.out.zr.frozen 0
    have y1 := HST8.out.zr.frozen 1
    have b0 := HST8.out.bx.cell (i := 0) rfl
    have b1 := HST8.out.bx.cell (i := 1) rfl
    have hfin := (HST8.out.zr.set 0 (.int .i64 (x7 - 1))).set 1 (.slice qv l.length cv)
    have k0 := hfin.cell (i := 0) rfl
    have k1 := hfin.cell (i := 1) rfl
    have HRO := Lib.hid (owns_setO (u := .slice qv l.length cv) (owns_setO (u := .int .i64 (x7 - 1)) HST8.out.ro HST8.out.zr (by decide) 0) (HST8.out.zr.set 0 _) (by decide) 1)
    have HGF := Lib.hid (grownOwn (grownOwn HST8.out.gr (grownSet _ bZ 0 (.int .i64 (x7 - 1))) hb2) (grownSet _ bZ 1 (.slice qv l.length cv)) hb2)
    have HCF := Lib.hid (Cur.grown (Cur.grown HST8.out.cu (grownSet _ bZ 0 (.int .i64 (x7 - 1))) (by omega)) (grownSet _ bZ 1 (.slice qv l.length cv)) (by omega))
    clear hfin
    go_wp2
    refine bodyPost_ret (v := .agg #[.int .i64 (x7 - 1), .slice qv l.length cv]) (by simp [results, Try.results11, go_sem, k0, k1]) rfl ?_
    exact ⟨(x7 - 1), qv, cv, l, n7, rfl, by omega, HRO.out, by omega, by omega, HCF.out, HGF.out⟩
  by_cases hx1 : x6 = 1
  · subst hx1
    clear x60 x61 hx0
    go_upto_region 6 with fail
    refine hd_start (n := 6) (S := fun w' => w'.cell? ⟨bR, 1, none⟩ = some (.slice qv l.length cv)) (by kernel_rfl) (by kernel_rfl) (fkeep (fdrew (frefl _)) g1) (fun hHeld => ?_)
    obtain ⟨d0, hd0⟩ : ∃ W, W = w6.drew := ⟨_, rfl⟩
    rw [← hd0] at hHeld ⊢
    have HSD := Lib.hid (HST6.out.fresh (w' := d0) (by rw [hd0]; exact fdrew (frefl _)))
    clear hd0 g0 g1 f0 f1
    refine hd_tk (i := 0) (v := ?_) rfl ?_ ?_
    rotate_left
    · (intro w hSw; (try dsimp only at hSw); go_simp; first | done | with_reducible rfl)
    try simp only [PU]
    refine hd_tk (i := 1) (v := ?_) rfl ?_ ?_
    rotate_left
    · (intro w hSw; (try dsimp only at hSw); go_simp; first | done | with_reducible rfl)
    try simp only [PU]
    refine hd_tk (i := 2) (v := ?_) rfl ?_ ?_
    rotate_left
    · (intro w hSw; (try dsimp only at hSw); go_simp; first | done | with_reducible rfl)
    try simp only [PU]
    refine hd_one (i := 3) rfl (by kernel_rfl) (by kernel_rfl) (fun K hK => ?_)
    go_simp
    go_at_call 16
    refine (pick_any HX.out 8 HSD.out.fr hr (by omega) (by omega) (by omega) HSD.out.cu).mono ?_
    rintro e w7 ⟨x7, n7, ⟨x70, x71⟩, rfl, a7, b7, hc7, hg7⟩
    have HST7 := Lib.hid (HSD.out.grown hr (by omega) (by omega) (by omega) hrw hg7 hc7)
    have hw7 : IntKind.i64.wrap (x7 - 1) = x7 - 1 := by rw [IntKind.wrap_i64]; omega
    clear hc7 hg7
    have g1 := HST7.out.bx.cell (i := 1) rfl
    go_wp2_with fail
    refine hK.out _ _ g1 (fun hHeld => ?_)
    clear hK K
    try simp only [PU]
    refine hd_tk (i := 4) (v := ?_) rfl ?_ ?_
    rotate_left
    · (intro w hSw; (try dsimp only at hSw); go_simp; first | done | with_reducible rfl)
    try simp only [PU]
    refine hd_one (i := 5) rfl (by kernel_rfl) (by kernel_rfl) (fun K hK => ?_)
    go_simp
    refine hK.out _ _ (fkeep (fnew (frefl _) _) g1) (fun hHeld => ?_)
    clear hK K
    try simp only [PU]
    refine hd_done (by kernel_rfl) ?_
    clear hHeld
    simp only [List.drop_succ_cons, List.drop_zero]
    have hsp : w.heap.size ≤ w7.heap.size := HST7.out.gr.size
    clear g1
    go_upto_region 12 with (at_builtin; refine wpList_app_rd w.heap.size _ _ l (x7 - 1) rfl _ _ rfl rfl HST7.out.ro rfl (by omega) hsp ?_; intro q9 c9 w9 hown9 hg9 hb9; have hbx9 := row_grown0 HST7.out.ro hg9 HST7.out.bx (by decide); have z9 := hbx9.cell (i := 1) rfl; have y9 := hbx9.frozen 1; have HST9 := Lib.hid (HST7.out.appV hW0 hrw (by omega) (by omega) (by omega) hg9 hown9 hb9); clear hbx9 hown9 hg9 hb9)
    obtain ⟨w8, hw8⟩ : ∃ W, W = w9.setCell ⟨bR, 1, none⟩ (.slice q9 (l.length + 1) c9) := ⟨_, rfl⟩
    rw [← hw8] at HST9 ⊢
    clear hw8 z9 y9 hw7
    have z0 := HST9.out.zr.cell (i := 0) rfl
    have z1 := HST9.out.zr.cell (i := 1) rfl
    have y0 := HST9.out.zr.frozen 0
    have y1 := HST9.out.zr.frozen 1
    have b0 := HST9.out.bx.cell (i := 0) rfl
    have b1 := HST9.out.bx.cell (i := 1) rfl
    have hfin := (HST9.out.zr.set 0 (.int .i64 s)).set 1 (.slice q9 (l.length + 1) c9)
    have k0 := hfin.cell (i := 0) rfl
    have k1 := hfin.cell (i := 1) rfl
    have HRO := Lib.hid (owns_setO (u := .slice q9 (l.length + 1) c9) (owns_setO (u := .int .i64 s) HST9.out.ro HST9.out.zr (by decide) 0) (HST9.out.zr.set 0 _) (by decide) 1)
    have HGF := Lib.hid (grownOwn (grownOwn HST9.out.gr (grownSet _ bZ 0 (.int .i64 s)) hb2) (grownSet _ bZ 1 (.slice q9 (l.length + 1) c9)) hb2)
    have HCF := Lib.hid (Cur.grown (Cur.grown HST9.out.cu (grownSet _ bZ 0 (.int .i64 s)) (by omega)) (grownSet _ bZ 1 (.slice q9 (l.length + 1) c9)) (by omega))
    have HLL : Hid (((l ++ [x7 - 1])).length = (l.length + 1)) := by show _ = _; simp
    clear hfin
    go_wp2
    refine bodyPost_ret (v := .agg #[.int .i64 s, .slice q9 (l.length + 1) c9]) (by simp [results, Try.results11, go_sem, k0, k1]) rfl ?_
    exact ⟨s, q9, c9, (l ++ [x7 - 1]), n7, by rw [HLL.out], by rw [HLL.out]; omega, by rw [HLL.out]; exact HRO.out, by omega, by omega, HCF.out, HGF.out⟩
  by_cases hx2 : x6 = 2
  · subst hx2
    clear x60 x61 hx0 hx1
    have HRN : Hid (Row (w6.alloc (.cells #[] 3)) w.heap.size (.slice (some ⟨w6.heap.size, 0, none⟩) 0 0) []) := ownsRow_zero (RowAt.new w6 _ []) HST6.out.gr.size
    have HST7 := Lib.hid (HST6.out.fresh (fnew (frefl _) (.cells #[] 3)))
    have HST8 := Lib.hid (HST7.out.putV hW0 hrw (by omega) (by omega) (by omega) HRN.out)
    have z1 := HST7.out.bx.cell (i := 1) rfl
    have y1 := HST7.out.bx.frozen 1
    clear g0 g1 f0 f1
    obtain ⟨w7, hw7⟩ : ∃ W, W = w6.alloc (.cells #[] 3) := ⟨_, rfl⟩
    obtain ⟨b7, hb7⟩ : ∃ b, b = w6.heap.size := ⟨_, rfl⟩
    go_upto_region 12 with fail
    rw [← hb7] at HST8 ⊢
    rw [← hw7] at HST8 ⊢
    obtain ⟨w8, hw8⟩ : ∃ W, W = w7.setCell ⟨bR, 1, none⟩ (.slice (some ⟨b7, 0, none⟩) 0 0) := ⟨_, rfl⟩
    rw [← hw8] at HST8 ⊢
    clear hw8 z1 y1 hw7 hb7 HRN HST7
    have z0 := HST8.out.zr.cell (i := 0) rfl
    have z1 := HST8.out.zr.cell (i := 1) rfl
    have y0 := HST8.out.zr.frozen 0
    have y1 := HST8.out.zr.frozen 1
    have b0 := HST8.out.bx.cell (i := 0) rfl
    have b1 := HST8.out.bx.cell (i := 1) rfl
    have hfin := (HST8.out.zr.set 0 (.int .i64 s)).set 1 (.slice (some ⟨b7, 0, none⟩) 0 0)
    have k0 := hfin.cell (i := 0) rfl
    have k1 := hfin.cell (i := 1) rfl
    have HRO := Lib.hid (owns_setO (u := .slice (some ⟨b7, 0, none⟩) 0 0) (owns_setO (u := .int .i64 s) HST8.out.ro HST8.out.zr (by decide) 0) (HST8.out.zr.set 0 _) (by decide) 1)
    have HGF := Lib.hid (grownOwn (grownOwn HST8.out.gr (grownSet _ bZ 0 (.int .i64 s)) hb2) (grownSet _ bZ 1 (.slice (some ⟨b7, 0, none⟩) 0 0)) hb2)
    have HCF := Lib.hid (Cur.grown (Cur.grown HST8.out.cu (grownSet _ bZ 0 (.int .i64 s)) (by omega)) (grownSet _ bZ 1 (.slice (some ⟨b7, 0, none⟩) 0 0)) (by omega))
    have HLL : Hid ((([] : List Int)).length = 0) := by show _ = _; simp
    clear hfin
    go_wp2
    refine bodyPost_ret (v := .agg #[.int .i64 s, .slice (some ⟨b7, 0, none⟩) 0 0]) (by simp [results, Try.results11, go_sem, k0, k1]) rfl ?_
    exact ⟨s, (some ⟨b7, 0, none⟩), 0, ([] : List Int), n6, by rw [HLL.out], by rw [HLL.out]; omega, by rw [HLL.out]; exact HRO.out, by omega, by omega, HCF.out, HGF.out⟩
  by_cases hx3 : x6 = 3
  · subst hx3
    clear x60 x61 hx0 hx1 hx2
    by_cases hl1 : 1 < l.length
    · have hl1z : (1 : Int) < (l.length : Int) := by omega
      go_upto_region 11 with fail
      clear hl1z
      obtain ⟨bo, oo, hqs, hlast⟩ := last_cell HST6.out.ro.ints (by omega)
      subst hqs
      have ho1 : (l.length : Int) - 1 < (l.length : Int) := by omega
      have ho2 : 0 ≤ (l.length : Int) - 1 := by omega
      have ho4 : IntKind.i64.wrap ((l.length : Int) - 1) = (l.length : Int) - 1 := by rw [IntKind.wrap_i64]; omega
      have ho5 : ((l.length : Int) - 1).toNat = l.length - 1 := by omega
      have ho6 : 1 ≤ (l.length : Int) := by omega
      have ho3 : (l.length : Int) - 1 ≤ (l.length : Int) := by omega
      refine hd_start (n := 11) (S := fun w' => w'.cell? ⟨bR, 1, none⟩ = some (.slice (some ⟨bo, oo, none⟩) l.length cv) ∧ w'.cell? ⟨bo, oo + (l.length - 1), none⟩ = some (.int .i64 (lastI l))) (by kernel_rfl) (by kernel_rfl) ⟨fkeep (fdrew (frefl _)) g1, fkeep (fdrew (frefl _)) hlast⟩ (fun hHeld => ?_)
      obtain ⟨d0, hd0⟩ : ∃ W, W = w6.drew := ⟨_, rfl⟩
      rw [← hd0] at hHeld ⊢
      have hfd : Fresh w6 d0 := by rw [hd0]; exact fdrew (frefl _)
      have HSD := Lib.hid (HST6.out.fresh hfd)
      replace g1 := fkeep hfd g1
      replace hlast := fkeep hfd hlast
      clear hd0 g0 f0 f1 hfd
      refine hd_tk (i := 0) (v := ?_) rfl ?_ ?_
      rotate_left
      · (intro w hSw; (try dsimp only at hSw); go_simp; first | done | with_reducible rfl)
      try simp only [PU]
      refine hd_tk (i := 1) (v := ?_) rfl ?_ ?_
      rotate_left
      · (intro w hSw; (try dsimp only at hSw); go_simp; first | done | with_reducible rfl)
      try simp only [PU]
      refine hd_tk (i := 2) (v := ?_) rfl ?_ ?_
      rotate_left
      · (intro w hSw; (try dsimp only at hSw); go_simp; first | done | with_reducible rfl)
      try simp only [PU]
      refine hd_tk (i := 3) (v := ?_) rfl ?_ ?_
      rotate_left
      · (intro w hSw; (try dsimp only at hSw); go_simp; first | done | with_reducible rfl)
      try simp only [PU]
      refine hd_tk (i := 4) (v := ?_) rfl ?_ ?_
      rotate_left
      · (intro w hSw; (try dsimp only at hSw); go_simp; first | done | with_reducible rfl)
      try simp only [PU]
      refine hd_tk (i := 5) (v := ?_) rfl ?_ ?_
      rotate_left
      · (intro w hSw; (try dsimp only at hSw); go_simp; first | done | with_reducible rfl)
      try simp only [PU]
      refine hd_tk (i := 6) (v := ?_) rfl ?_ ?_
      rotate_left
      · (intro w hSw; (try dsimp only at hSw); go_simp; first | done | with_reducible rfl)
      try simp only [PU]
      refine hd_tk (i := 7) (v := ?_) rfl ?_ ?_
      rotate_left
      · (intro w hSw; (try dsimp only at hSw); go_simp; first | done | with_reducible rfl)
      try simp only [PU]
      refine hd_tk (i := 8) (v := ?_) rfl ?_ ?_
      rotate_left
      · (intro w hSw; (try dsimp only at hSw); go_simp; first | done | with_reducible rfl)
      try simp only [PU]
      refine hd_tk (i := 9) (v := ?_) rfl ?_ ?_
      rotate_left
      · (intro w hSw; (try dsimp only at hSw); go_simp; first | done | with_reducible rfl)
      try simp only [PU]
      refine hd_one (i := 10) rfl (by kernel_rfl) (by kernel_rfl) (fun K hK => ?_)
      go_simp
      refine hK.out _ _ ⟨fkeep (fnew (frefl _) _) g1, fkeep (fnew (frefl _) _) hlast⟩ (fun hHeld => ?_)
      clear hK K
      try simp only [PU]
      refine hd_done (by kernel_rfl) ?_
      clear hHeld
      simp only [List.drop_succ_cons, List.drop_zero]
      have hsp : w.heap.size ≤ d0.heap.size := HSD.out.gr.size
      clear g1 hlast
      go_upto_region 12 with (at_builtin; refine wpList_app_rd w.heap.size _ _ l (lastI l) rfl _ _ rfl rfl HSD.out.ro rfl (by omega) hsp ?_; intro q9 c9 w9 hown9 hg9 hb9; have hbx9 := row_grown0 HSD.out.ro hg9 HSD.out.bx (by decide); have z9 := hbx9.cell (i := 1) rfl; have y9 := hbx9.frozen 1; have HST9 := Lib.hid (HSD.out.appV hW0 hrw (by omega) (by omega) (by omega) hg9 hown9 hb9); clear hbx9 hown9 hg9 hb9)
      obtain ⟨w8, hw8⟩ : ∃ W, W = w9.setCell ⟨bR, 1, none⟩ (.slice q9 (l.length + 1) c9) := ⟨_, rfl⟩
      rw [← hw8] at HST9 ⊢
      clear hw8 z9 y9
      have z0 := HST9.out.zr.cell (i := 0) rfl
      have z1 := HST9.out.zr.cell (i := 1) rfl
      have y0 := HST9.out.zr.frozen 0
      have y1 := HST9.out.zr.frozen 1
      have b0 := HST9.out.bx.cell (i := 0) rfl
      have b1 := HST9.out.bx.cell (i := 1) rfl
      have hfin := (HST9.out.zr.set 0 (.int .i64 s)).set 1 (.slice q9 (l.length + 1) c9)
      have k0 := hfin.cell (i := 0) rfl
      have k1 := hfin.cell (i := 1) rfl
      have HRO := Lib.hid (owns_setO (u := .slice q9 (l.length + 1) c9) (owns_setO (u := .int .i64 s) HST9.out.ro HST9.out.zr (by decide) 0) (HST9.out.zr.set 0 _) (by decide) 1)
      have HGF := Lib.hid (grownOwn (grownOwn HST9.out.gr (grownSet _ bZ 0 (.int .i64 s)) hb2) (grownSet _ bZ 1 (.slice q9 (l.length + 1) c9)) hb2)
      have HCF := Lib.hid (Cur.grown (Cur.grown HST9.out.cu (grownSet _ bZ 0 (.int .i64 s)) (by omega)) (grownSet _ bZ 1 (.slice q9 (l.length + 1) c9)) (by omega))
      have HLL : Hid (((l ++ [lastI l])).length = (l.length + 1)) := by show _ = _; simp
      clear hfin
      go_wp2
      refine bodyPost_ret (v := .agg #[.int .i64 s, .slice q9 (l.length + 1) c9]) (by simp [results, Try.results11, go_sem, k0, k1]) rfl ?_
      exact ⟨s, q9, c9, (l ++ [lastI l]), n6, by rw [HLL.out], by rw [HLL.out]; omega, by rw [HLL.out]; exact HRO.out, by omega, by omega, HCF.out, HGF.out⟩
    · have hl1z : ¬ (1 : Int) < (l.length : Int) := by omega
      go_upto_region 12 with fail
      clear hl1z g0 g1 f0 f1
      have z0 := HST6.out.zr.cell (i := 0) rfl
      have z1 := HST6.out.zr.cell (i := 1) rfl
      have y0 := HST6.out.zr.frozen 0
      have y1 := HST6.out.zr.frozen 1
      have b0 := HST6.out.bx.cell (i := 0) rfl
      have b1 := HST6.out.bx.cell (i := 1) rfl
      have hfin := (HST6.out.zr.set 0 (.int .i64 s)).set 1 (.slice qv l.length cv)
      have k0 := hfin.cell (i := 0) rfl
      have k1 := hfin.cell (i := 1) rfl
      have HRO := Lib.hid (owns_setO (u := .slice qv l.length cv) (owns_setO (u := .int .i64 s) HST6.out.ro HST6.out.zr (by decide) 0) (HST6.out.zr.set 0 _) (by decide) 1)
      have HGF := Lib.hid (grownOwn (grownOwn HST6.out.gr (grownSet _ bZ 0 (.int .i64 s)) hb2) (grownSet _ bZ 1 (.slice qv l.length cv)) hb2)
      have HCF := Lib.hid (Cur.grown (Cur.grown HST6.out.cu (grownSet _ bZ 0 (.int .i64 s)) (by omega)) (grownSet _ bZ 1 (.slice qv l.length cv)) (by omega))
      clear hfin
      go_wp2
      refine bodyPost_ret (v := .agg #[.int .i64 s, .slice qv l.length cv]) (by simp [results, Try.results11, go_sem, k0, k1]) rfl ?_
      exact ⟨s, qv, cv, l, n6, rfl, by omega, HRO.out, by omega, by omega, HCF.out, HGF.out⟩
  · have e0 : (x6 == 0) = false := by rw [beq_eq_false_iff_ne]; exact hx0
    have e1 : (x6 == 1) = false := by rw [beq_eq_false_iff_ne]; exact hx1
    have e2 : (x6 == 2) = false := by rw [beq_eq_false_iff_ne]; exact hx2
    have e3 : (x6 == 3) = false := by rw [beq_eq_false_iff_ne]; exact hx3
    go_upto_region 12 with fail
    clear e0 e1 e2 e3 g0 g1 f0 f1
    have z0 := HST6.out.zr.cell (i := 0) rfl
    have z1 := HST6.out.zr.cell (i := 1) rfl
    have y0 := HST6.out.zr.frozen 0
    have y1 := HST6.out.zr.frozen 1
    have b0 := HST6.out.bx.cell (i := 0) rfl
    have b1 := HST6.out.bx.cell (i := 1) rfl
    have hfin := (HST6.out.zr.set 0 (.int .i64 s)).set 1 (.slice qv l.length cv)
    have k0 := hfin.cell (i := 0) rfl
    have k1 := hfin.cell (i := 1) rfl
    have HRO := Lib.hid (owns_setO (u := .slice qv l.length cv) (owns_setO (u := .int .i64 s) HST6.out.ro HST6.out.zr (by decide) 0) (HST6.out.zr.set 0 _) (by decide) 1)
    have HGF := Lib.hid (grownOwn (grownOwn HST6.out.gr (grownSet _ bZ 0 (.int .i64 s)) hb2) (grownSet _ bZ 1 (.slice qv l.length cv)) hb2)
    have HCF := Lib.hid (Cur.grown (Cur.grown HST6.out.cu (grownSet _ bZ 0 (.int .i64 s)) (by omega)) (grownSet _ bZ 1 (.slice qv l.length cv)) (by omega))
    clear hfin
    go_wp2
    refine bodyPost_ret (v := .agg #[.int .i64 s, .slice qv l.length cv]) (by simp [results, Try.results11, go_sem, k0, k1]) rfl ?_
    exact ⟨s, qv, cv, l, n6, rfl, by omega, HRO.out, by omega, by omega, HCF.out, HGF.out⟩
end Go.Proofs.Ytlapicgeokjpjaa
