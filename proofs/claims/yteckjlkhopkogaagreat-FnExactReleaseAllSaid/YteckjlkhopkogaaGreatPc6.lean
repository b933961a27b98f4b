/- Contracts: a copy of a plan, the reference's side. -/
import Derived.Test.YteckjlkhopkogaaGreatPc5
namespace Go.Proofs.YteckjlkhopkogaaGreat
open Go.RowKit Go.PlainAid

theorem kp6 {w w1 w2 : World} {a a' b o : Nat} {v v0 v1 v2 v3 v4 : Value} (h : Fresh w w1 ∧ w1.cell? ⟨a, a', none⟩ = some v ∧ w1.cell? ⟨b, o, none⟩ = some v0 ∧ w1.cell? ⟨b, o + 1, none⟩ = some v1 ∧ w1.cell? ⟨b, o + 2, none⟩ = some v2 ∧ w1.cell? ⟨b, o + 3, none⟩ = some v3 ∧ w1.cell? ⟨b, o + 4, none⟩ = some v4) (hb : Fresh w1 w2) :
    Fresh w w2 ∧ w2.cell? ⟨a, a', none⟩ = some v ∧ w2.cell? ⟨b, o, none⟩ = some v0 ∧ w2.cell? ⟨b, o + 1, none⟩ = some v1 ∧ w2.cell? ⟨b, o + 2, none⟩ = some v2 ∧ w2.cell? ⟨b, o + 3, none⟩ = some v3 ∧ w2.cell? ⟨b, o + 4, none⟩ = some v4 :=
  ⟨fstep h.1 hb, fkeep hb h.2.1, fkeep hb h.2.2.1, fkeep hb h.2.2.2.1, fkeep hb h.2.2.2.2.1, fkeep hb h.2.2.2.2.2.1, fkeep hb h.2.2.2.2.2.2⟩
theorem s6 {w0 w : World} {a a' b o : Nat} {v v0 v1 v2 v3 v4 : Value} (hf : Fresh w0 w) (h : w.cell? ⟨a, a', none⟩ = some v) (c0 : w0.cell? ⟨b, o, none⟩ = some v0) (c1 : w0.cell? ⟨b, o + 1, none⟩ = some v1) (c2 : w0.cell? ⟨b, o + 2, none⟩ = some v2) (c3 : w0.cell? ⟨b, o + 3, none⟩ = some v3) (c4 : w0.cell? ⟨b, o + 4, none⟩ = some v4) :
    Fresh w0 w ∧ w.cell? ⟨a, a', none⟩ = some v ∧ w.cell? ⟨b, o, none⟩ = some v0 ∧ w.cell? ⟨b, o + 1, none⟩ = some v1 ∧ w.cell? ⟨b, o + 2, none⟩ = some v2 ∧ w.cell? ⟨b, o + 3, none⟩ = some v3 ∧ w.cell? ⟨b, o + 4, none⟩ = some v4 :=
  ⟨hf, h, fkeep hf c0, fkeep hf c1, fkeep hf c2, fkeep hf c3, fkeep hf c4⟩
set_option maxHeartbeats 8000000 in
set_option maxRecDepth 100000 in
theorem l9Own_any (v : Value) (P : PlanV) (w : World) (h : PlIn w v P) : Calls Tryz.prog 45 #[v] w fun e w' => ∃ v', e = .returned v' ∧ PlOwn w' w.heap.size v' P ∧ Fresh w w' := by
  obtain ⟨N, L⟩ := P
  obtain ⟨q, c, p, d, r, e0, l, rfl, hN, hL, hs, hv, _⟩ := h.parts
  simp only at hN hv ⊢
  have hn := hs.1
  obtain ⟨nn, hnn⟩ : ∃ k, k = N.nodes.length := ⟨_, rfl⟩
  obtain ⟨nf, hnf⟩ : ∃ k, k = N.fibers.length := ⟨_, rfl⟩
  rw [← hnn, ← hnf] at hN ⊢
  obtain ⟨W2, hW2, hsz2, hf2, r1, r2⟩ := two_rows w [.slice q nn c, .slice p nf d, .slice r l.length e0] [.slice none 0 0, .slice none 0 0, .slice none 0 0] 38 38
  have HC := Lib.hid (l2Own_any (.agg #[.slice q nn c, .slice p nf d]) N W2 (hN.keep hf2))
  unfold OutNetC at HC
  rw [← hnn, ← hnf] at HC
  have HL := Lib.hid hL
  have HSM := Lib.hid hs
  have HV := Lib.hid hv
  have HF2 := Lib.hid hf2
  have HR1 := Lib.hid r1
  have HR2 := Lib.hid r2
  have HW2 := Lib.hid hW2
  have HNN := Lib.hid hnn
  have HNF := Lib.hid hnf
  have hsz := hf2.size
  clear h hN hL hs hv hf2 r1 r2 hW2 hnn hnf
  go_enter Tryz.func45, Tryz.ntmps45
  go_wp2_with fail
  rw [← HW2.out]
  refine (HC.out).mono ?_
  rintro e w1 ⟨q', c', p', d', rfl, hoq, hop, hc1, hc2, hb⟩
  have HOQ := Lib.hid (hoq.mono hsz)
  have HOP := Lib.hid (hop.mono hsz)
  have HB := Lib.hid hb
  have hszb := hb.size
  have a2 := (HR1.out.keep hb).cell (i := 2) rfl
  obtain ⟨W4, hW4⟩ : ∃ W4, W4 = w1.alloc (.cells #[.slice q' nn c', .slice p' nf d', .slice none 0 0] 38) := ⟨_, rfl⟩
  have hf4 : Fresh w1 W4 := by rw [hW4]; exact fnew (frefl _) _
  have HF4 := Lib.hid (fstep HF2.out (fstep hb hf4))
  have HR4 : Hid (RowAt W4 w1.heap.size 38 [.slice q' nn c', .slice p' nf d', .slice none 0 0]) := by show RowAt _ _ _ _; rw [hW4]; exact RowAt.new _ _ _
  have a2' := fun o : Obj => fkeep (fnew (frefl w1) o) a2
  have HOQ4 := Lib.hid (HOQ.out.keep hf4)
  have HOP4 := Lib.hid (HOP.out.keep hf4)
  have HRZ4 := Lib.hid ((HR2.out.keep hb).keep hf4)
  have HB14 := Lib.hid ((HR1.out.keep hb).keep hf4)
  have HW4 := Lib.hid hW4
  clear hoq hop hb hf4 hW4 HC
  go_wp2
  rw [← HW4.out]
  clear a2 a2'
  go_loopw [4] (fun i wr => ∃ (k : Nat) (V : Value) (l' : List LL), k ≤ l.length ∧ i = .int .i64 k ∧ RowAt wr w1.heap.size 38 [.slice q' nn c', .slice p' nf d', V] ∧ wr.ownsRow w.heap.size 94 5 V l'.length (l'.flatMap llC) ∧ l'.map LL.val = (l.take k).map LL.val ∧ (∀ x ∈ l', Own wr w.heap.size 3 x.r.q (x.r.fibs.map iv)) ∧ DistL l' ∧ (∀ x ∈ l', ∀ g o, x.r.q = some ⟨g, o, none⟩ → g < wr.heap.size) ∧ Own wr w.heap.size 9 q' (N.nodes.map Value.string) ∧ Own wr w.heap.size 163 p' (N.fibers.flatMap fibC) ∧ RowAt wr (w.heap.size + 1) 38 [.slice none 0 0, .slice none 0 0, .slice none 0 0] ∧ RowAt wr w.heap.size 38 [.slice q nn c, .slice p nf d, .slice r l.length e0] ∧ Fresh w wr) (fun i _ => l.length - (intOf i).toNat)
  case atStart => exact ⟨0, .slice none 0 0, [], Nat.zero_le _, rfl, HR4.out, World.ownsRow_nil _ _ _ _, rfl, (by intro x hx; cases hx), (by intro i j x y _ hx; simp at hx), (by intro x hx; cases hx), HOQ4.out, HOP4.out, HRZ4.out, HB14.out, HF4.out⟩
  case round =>
    obtain ⟨k, V, l', hk, rfl, hrp, how, hval, hio, hdi, hbl, hq4, hp4, hrz, hb1, hf⟩ := hrel
    have HRZ := Lib.hid hrz
    have HB1 := Lib.hid hb1
    have a2 := hb1.cell (i := 2) rfl
    have HRP := Lib.hid hrp
    have HOW := Lib.hid how
    have HVAL := Lib.hid hval
    have HIO := Lib.hid hio
    have HDI := Lib.hid hdi
    have HBL := Lib.hid hbl
    have HQ4 := Lib.hid hq4
    have HP4 := Lib.hid hp4
    have HFR := Lib.hid hf
    have hll : l'.length = k := by
      have := congrArg List.length hval
      simp at this; omega
    have HLL := Lib.hid hll
    have hl48 : l'.length ≤ 1048576 := by omega
    clear hll
    clear hrp how hval hio hdi hbl hq4 hp4 hrz hb1
    by_cases hlt : k < l.length
    · have hltz : (k : Int) < (l.length : Int) := by omega
      obtain ⟨b, off, x, hrr, hx, hm, _, hc0, hc1', hc2', hc3, hc4⟩ := HL.out.at hlt
      subst hrr
      have hsm := HSM.out.2 x hm
      have HX := Lib.hid hx
      have HIX := Lib.hid (HL.out.2 x hm)
      have HRP5 := HRP
      have HF5 := HFR
      have hgl := HRP.out.lt
      have hszf := hf.size
      have HSS := s6 hf a2 hc0 hc1' hc2' hc3 hc4
      have hv5 := HRP.out.cell (i := 2) rfl
      have HC0 := Lib.hid (And.intro hc0 (And.intro hc1' (And.intro hc2' (And.intro hc3 hc4))))
      clear hx hm hf hc0 hc1' hc2' hc3 hc4
      go_wp2
      refine hd_start (n := 9) (S := fun w' => (Fresh w w' ∧ w'.cell? ⟨w.heap.size, 2, none⟩ = some (.slice (some ⟨b, off, none⟩) l.length e0) ∧ w'.cell? ⟨b, off + k * 5, none⟩ = some (.int .i64 x.id) ∧ w'.cell? ⟨b, off + k * 5 + 1, none⟩ = some (.int .i64 x.r.start) ∧ w'.cell? ⟨b, off + k * 5 + 2, none⟩ = some (.slice x.r.q x.r.fibs.length x.r.cap) ∧ w'.cell? ⟨b, off + k * 5 + 3, none⟩ = some (.int .i64 x.f) ∧ w'.cell? ⟨b, off + k * 5 + 4, none⟩ = some (.int .i64 x.c)) ∧ w'.cell? ⟨w1.heap.size, 2, none⟩ = some V) (by kernel_rfl) (by kernel_rfl) ⟨kp6 HSS (fdrew (frefl _)), fkeep (fdrew (frefl _)) hv5⟩ (fun hHeld => ?_)
      refine hd_take (i := 0) (v := ?_) rfl (by kernel_rfl) (by kernel_rfl) (by kernel_rfl) (by kernel_rfl) (fun _ _ _ h => h) (by assumption) (Or.inl ⟨by rfl, ?_⟩) ?_
      rotate_left
      · (intro w hSw; (try dsimp only at hSw); go_simp; first | done | with_reducible rfl)
      try simp only [Act.put, List.setIfInBounds_toArray, List.set_cons_zero, List.set_cons_succ]
      refine hd_take (i := 1) (v := ?_) rfl (by kernel_rfl) (by kernel_rfl) (by kernel_rfl) (by kernel_rfl) (fun _ _ _ h => h) (by assumption) (Or.inl ⟨by rfl, ?_⟩) ?_
      rotate_left
      · (intro w hSw; (try dsimp only at hSw); go_simp; first | done | with_reducible rfl)
      try simp only [Act.put, List.setIfInBounds_toArray, List.set_cons_zero, List.set_cons_succ]
      refine hd_take (i := 2) (v := ?_) rfl (by kernel_rfl) (by kernel_rfl) (by kernel_rfl) (by kernel_rfl) (fun _ _ _ h => h) (by assumption) (Or.inl ⟨by rfl, ?_⟩) ?_
      rotate_left
      · (intro w hSw; (try dsimp only at hSw); go_simp; first | done | with_reducible rfl)
      try simp only [Act.put, List.setIfInBounds_toArray, List.set_cons_zero, List.set_cons_succ]
      refine hd_take (i := 3) (v := ?_) rfl (by kernel_rfl) (by kernel_rfl) (by kernel_rfl) (by kernel_rfl) (fun _ _ _ h => h) (by assumption) (Or.inl ⟨by rfl, ?_⟩) ?_
      rotate_left
      · (intro w hSw; (try dsimp only at hSw); go_simp; first | done | with_reducible rfl)
      try simp only [Act.put, List.setIfInBounds_toArray, List.set_cons_zero, List.set_cons_succ]
      refine hd_take (i := 4) (v := ?_) rfl (by kernel_rfl) (by kernel_rfl) (by kernel_rfl) (by kernel_rfl) (fun _ _ _ h => h) (by assumption) (Or.inl ⟨by rfl, ?_⟩) ?_
      rotate_left
      · (intro w hSw; (try dsimp only at hSw); go_simp; first | done | with_reducible rfl)
      try simp only [Act.put, List.setIfInBounds_toArray, List.set_cons_zero, List.set_cons_succ]
      refine hd_take (i := 5) (v := ?_) rfl (by kernel_rfl) (by kernel_rfl) (by kernel_rfl) (by kernel_rfl) (fun _ _ _ h => h) (by assumption) (Or.inl ⟨by rfl, ?_⟩) ?_
      rotate_left
      · (intro w hSw; (try dsimp only at hSw); go_simp; first | done | with_reducible rfl)
      try simp only [Act.put, List.setIfInBounds_toArray, List.set_cons_zero, List.set_cons_succ]
      refine hd_take (i := 6) (v := ?_) rfl (by kernel_rfl) (by kernel_rfl) (by kernel_rfl) (by kernel_rfl) (fun _ _ _ h => h) (by assumption) (Or.inl ⟨by rfl, ?_⟩) ?_
      rotate_left
      · (intro w hSw; (try dsimp only at hSw); go_simp; first | done | with_reducible rfl)
      try simp only [Act.put, List.setIfInBounds_toArray, List.set_cons_zero, List.set_cons_succ]
      refine hd_one (i := 7) rfl (by kernel_rfl) (by kernel_rfl) (fun K hK => ?_)
      (go_simp; go_at_call 86; refine (l9Copy_any x _ (HIX.out.keep (fstep HF5.out (fdrew (frefl _)))) hsm).mono ?_; rintro e w2 ⟨qx, cx, rfl, hox, hbw⟩; have hfr : Fresh wr w2 := fstep (fdrew (frefl _)) hbw; have hv6 := fkeep hfr hv5; go_wp2_with fail)
      refine hK.out _ _ ?_ (fun hHeld => ?_)
      · exact ⟨kp6 HSS hfr, hv6⟩
      clear hK K
      try simp only [Act.put, List.setIfInBounds_toArray, List.set_cons_zero, List.set_cons_succ]
      refine hd_one (i := 8) rfl (by kernel_rfl) (by kernel_rfl) (fun K hK => ?_)
      go_simp
      refine hK.out _ _ ?_ (fun hHeld => ?_)
      · exact ⟨kp6 HSS (fnew hfr _), fkeep (fnew (frefl _) _) hv6⟩
      clear hK K
      try simp only [Act.put, List.setIfInBounds_toArray, List.set_cons_zero, List.set_cons_succ]
      refine hd_done (by kernel_rfl) ?_
      clear hHeld
      simp only [List.drop_succ_cons, List.drop_zero]
      go_wp2_with (at_builtin; refine wpList_app_b Tryz.underlying36 infoLt rfl (by decide) (by decide) w w2 V l'.length (l'.flatMap llC) [iv x.id, iv x.r.start, .slice qx x.r.fibs.length cx, iv x.f, iv x.c] _ rfl (one_lt ⟨x.id, ⟨x.r.start, qx, cx, x.r.fibs⟩, x.f, x.c⟩) rfl _ _ rfl rfl (ownsRow_keep HOW.out hfr) rfl rfl hl48 (fstep HF5.out hfr) ?_; intro v3 w3 hown3 hf3 hk3; obtain ⟨r3, e3, hv3, _⟩ := owns_cap hown3; subst hv3; have hpl3 := hk3 _ _ _ (HRP5.out.keep hfr) (Or.inl (by decide)); have hb13 := hk3 _ _ _ (HB1.out.keep hfr) (Or.inl (by decide)); have hbc3 := hb13.cell (i := 2) rfl; have z2 := hpl3.frozen 2; have y2 := hpl3.cell (i := 2) rfl)
      all_goals (
        have HO3 := Lib.hid hown3
        have HF3 := Lib.hid hf3
        have HK3 := Lib.hid hk3
        have HPL3 := Lib.hid hpl3
        have HFR6 := Lib.hid hfr
        have HOX := Lib.hid hox
        have HB13 := Lib.hid hb13
        have hszw : wr.heap.size ≤ w2.heap.size := hfr.size
        have HHB := Lib.hid hbw
        clear hown3 hf3 hk3 hpl3 hfr hox hb13 hbc3 hv5 hv6 HSS hbw z2 y2 a2
        go_wp2
        go_roundw
        case rel =>
          have hS : ∀ {t : TypeId} {pp : Option Addr} {cs : List Value}, Own wr w.heap.size t pp cs → t ≠ 94 → t ≠ 38 → Own (w3.setCell ⟨w1.heap.size, 2, none⟩ (.slice r3 (l'.length + 1) e3)) w.heap.size t pp cs := by
            intro t pp cs h n1 n2
            have h1 : Own w2 w.heap.size t pp cs := h.keep HFR6.out
            have h2 : Own w3 w.heap.size t pp cs := by
              rcases h1 with h1 | ⟨g, sp, a1, a2, a3⟩
              · exact Or.inl h1
              · exact Or.inr ⟨g, sp, a1, a2, HK3.out _ _ _ a3 (Or.inl n1)⟩
            exact h2.setO HPL3.out n2 _ _
          have hox3 : Own (w3.setCell ⟨w1.heap.size, 2, none⟩ (.slice r3 (l'.length + 1) e3)) w.heap.size 3 qx (x.r.fibs.map iv) := by
            have h1 : Own w2 w.heap.size 3 qx (x.r.fibs.map iv) := HOX.out.mono (by simpa using (by omega : w.heap.size ≤ wr.heap.size))
            have h2 : Own w3 w.heap.size 3 qx (x.r.fibs.map iv) := by
              rcases h1 with h1 | ⟨g, sp, a1, a2, a3⟩
              · exact Or.inl h1
              · exact Or.inr ⟨g, sp, a1, a2, HK3.out _ _ _ a3 (Or.inl (by decide))⟩
            exact h2.setO HPL3.out (by decide) _ _
          have hxb : ∀ g o, qx = some ⟨g, o, none⟩ → wr.heap.size ≤ g ∧ g < w3.heap.size := by
            intro g o e
            rcases HOX.out with ⟨e0, _⟩ | ⟨b, sp, e0, e1, e2⟩
            · rw [e0] at e; cases e
            · rw [e0] at e; cases e
              exact ⟨by simpa using e1, (HK3.out _ _ _ e2 (Or.inl (by decide))).lt⟩
          refine ⟨k + 1, .slice r3 (l'.length + 1) e3, l' ++ [⟨x.id, ⟨x.r.start, qx, cx, x.r.fibs⟩, x.f, x.c⟩], by omega, by go_num, HPL3.out.set 2 _, ?_, ?_, ?_, HDI.out.snoc ?_, ?_, hS HQ4.out (by decide) (by decide), hS HP4.out (by decide) (by decide), (HK3.out _ _ _ (HRZ.out.keep HFR6.out) (Or.inl (by decide))).setOther (by omega) _, HB13.out.setOther (by omega) _, fset HF3.out (by omega) _⟩
          · have := owns_setO (u := .slice r3 (l'.length + 1) e3) HO3.out HPL3.out (by decide) 2
            rw [List.length_append, List.flatMap_append]
            simpa using this
          · rw [List.map_append, HVAL.out, llv_take HX.out]; rfl
          · intro y hy
            rcases List.mem_append.1 hy with hy | hy
            · exact hS (HIO.out y hy) (by decide) (by decide)
            · rw [List.mem_singleton.1 hy]; exact hox3
          · intro y hy g o h o' e1 e2
            have h1 := (hxb g o e1).1
            have h2 := HBL.out y hy h o' e2
            omega
          · intro y hy g o e
            have hsz9 : (w3.setCell ⟨w1.heap.size, 2, none⟩ (.slice r3 (l'.length + 1) e3)).heap.size = w3.heap.size := by simp
            rw [hsz9]
            rcases List.mem_append.1 hy with hy | hy
            · rcases hS (HIO.out y hy) (by decide) (by decide) with ⟨e0, _⟩ | ⟨b9, sp, e0, _, e2⟩
              · rw [e0] at e; cases e
              · rw [e0] at e; cases e
                have := e2.lt
                rw [hsz9] at this; exact this
            · rw [List.mem_singleton.1 hy] at e
              exact (hxb g o e).2
        case measure => simp [intOf]; omega)
    · have hkn : k = l.length := by omega
      have hltz : ¬ (k : Int) < (l.length : Int) := by omega
      have HKN := Lib.hid hkn
      obtain ⟨r', e', rfl, hor, he1, he2⟩ := owns_cap HOW.out
      have HE1 := Lib.hid he1
      have HOR := Lib.hid hor
      have hrp := HRP.out
      have y0 := hrp.cell (i := 0) rfl
      have y1 := hrp.cell (i := 1) rfl
      have y2 := hrp.cell (i := 2) rfl
      have hrz := HRZ.out
      have x0 := hrz.cell (i := 0) rfl
      have x1 := hrz.cell (i := 1) rfl
      have x2 := hrz.cell (i := 2) rfl
      have z0 := hrz.frozen 0
      have z1 := hrz.frozen 1
      have z2 := hrz.frozen 2
      have hfin := ((hrz.set 0 (.slice q' nn c')).set 1 (.slice p' nf d')).set 2 (.slice r' l'.length e')
      have k0 := hfin.cell (i := 0) rfl
      have k1 := hfin.cell (i := 1) rfl
      have k2 := hfin.cell (i := 2) rfl
      clear hf hrp hrz hfin hor hkn he1
      go_wp2
      refine bodyPost_ret (v := .agg #[.slice q' nn c', .slice p' nf d', .slice r' l'.length e']) (by simp [results, Tryz.results45, go_sem, k0, k1, k2]) rfl ?_
      have hS : ∀ {t : TypeId} {pp : Option Addr} {cs : List Value}, Own wr w.heap.size t pp cs → t ≠ 38 → Own (((wr.setCell ⟨w.heap.size + 1, 0, none⟩ (.slice q' nn c')).setCell ⟨w.heap.size + 1, 1, none⟩ (.slice p' nf d')).setCell ⟨w.heap.size + 1, 2, none⟩ (.slice r' l'.length e')) w.heap.size t pp cs := fun h n =>
        ((h.setO HRZ.out n _ _).setO (HRZ.out.set 0 _) n _ _).setO ((HRZ.out.set 0 _).set 1 _) n _ _
      refine ⟨_, rfl, ⟨q', c', p', d', r', e', l', by rw [HNN.out, HNF.out], hS HQ4.out (by decide), hS HP4.out (by decide), hS HOR.out (by decide), fun x hx => hS (HIO.out x hx) (by decide), HDI.out, ?_, by rw [← HNN.out]; exact hc1, hc2, HE1.out, he2⟩, fset (fset (fset HFR.out (by omega) _) (by omega) _) (by omega) _⟩
      simp only
      rw [HV.out, HVAL.out, HKN.out, List.take_length]
end Go.Proofs.YteckjlkhopkogaaGreat
