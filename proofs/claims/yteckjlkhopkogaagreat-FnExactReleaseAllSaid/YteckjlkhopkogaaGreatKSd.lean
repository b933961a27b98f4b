/- A served plan as an argument: weighed, copied, compared, marked. -/
import Derived.Test.YteckjlkhopkogaaGreatRl
import Derived.Test.YteckjlkhopkogaaGreatMl
namespace Go.Proofs.YteckjlkhopkogaaGreat
open Go.RowKit Go.PlainAid

theorem NetOwn.mono {w : World} {base base' : Nat} {v : Value} {n : Net} (h : NetOwn w base v n) (hb : base' ≤ base) : NetOwn w base' v n := by
  obtain ⟨g1, g2, h1, h2, h3⟩ := h
  exact ⟨g1, g2, h1, Nat.le_trans hb h2, h3⟩
/-- A plan that is newly made: where all of it lies. -/
def PlMade (w : World) (base : Nat) (v : Value) (P : PlanV) : Prop := ∃ q m c p k d g, ∃ l' : List LL, v = .agg #[.slice q m c, .slice p k d, .slice (some ⟨g, 0, none⟩) l'.length l'.length] ∧ NetOwn w base (.agg #[.slice q m c, .slice p k d]) P.net ∧ RowAt w g 94 (l'.flatMap llC) ∧ base ≤ g ∧ (∀ x ∈ l', Own w base 3 x.r.q (x.r.fibs.map iv)) ∧ PlSmall P ∧ l'.map LL.val = P.lights
theorem PlMade.keep {w w' : World} {base : Nat} {v : Value} {P : PlanV} (h : PlMade w base v P) (hb : Fresh w w') : PlMade w' base v P := by
  obtain ⟨q, m, c, p, k, d, g, l, h1, h2, h3, h4, h5, h6⟩ := h
  exact ⟨q, m, c, p, k, d, g, l, h1, h2.keep hb, h3.keep hb, h4, fun x hx => (h5 x hx).keep hb, h6⟩
theorem PlMade.setOther {w : World} {base : Nat} {v : Value} {P : PlanV} (h : PlMade w base v P) {b o : Nat} (hb : b < base) (u : Value) : PlMade (w.setCell ⟨b, o, none⟩ u) base v P := by
  obtain ⟨q, m, c, p, k, d, g, l, h1, h2, h3, h4, h5, h6⟩ := h
  exact ⟨q, m, c, p, k, d, g, l, h1, h2.setOther hb u, h3.setOther (by omega) u, h4, fun x hx => (h5 x hx).setOther hb u, h6⟩
theorem PlMade.shape {w : World} {base : Nat} {v : Value} {P : PlanV} (h : PlMade w base v P) : ∃ q m c p k d r i e, v = .agg #[.slice q m c, .slice p k d, .slice r i e] := by
  obtain ⟨q, m, c, p, k, d, g, l, h1, _⟩ := h
  exact ⟨_, _, _, _, _, _, _, _, _, h1⟩
theorem PlMade.both {w : World} {base : Nat} {v : Value} {P : PlanV} (h : PlMade w base v P) : PlIn w v P ∧ PlMine w base w.heap.size v := by
  obtain ⟨N, L⟩ := P
  obtain ⟨q, m, c, p, k, d, g, l, rfl, h2, h3, h4, h5, h6, h7⟩ := h
  exact plan_made h2 h3 h5 (Nat.le_refl _) h4 (Nat.le_refl _) h6 h7
set_option maxHeartbeats 2000000 in
theorem toPlan_w (v : Value) (P : PlanV) (w : World) (h : PlIn w v P) : Calls Tryz.prog 21 #[v] w fun e w' => ∃ v', e = .returned v' ∧ PlMade w' w.heap.size v' P ∧ Fresh w w' := by
  have HSM := Lib.hid h.isSmall
  obtain ⟨N, L⟩ := P
  obtain ⟨q, m, c, p, k, d, r, e, l, rfl, hN, hL, hs, hv, _⟩ := h
  simp only at hN hv ⊢
  obtain ⟨W3, hW3, hsz3, hf3, r1, r2, r3⟩ := three_rows w [.slice q m c, .slice p k d, .slice r l.length e] [.slice none 0 0, .slice none 0 0, .slice none 0 0] [.slice none 0 0, .slice none 0 0, .slice none 0 0] 28 38 38
  have HW3 := Lib.hid hW3
  have HN := Lib.hid hN
  have HL := Lib.hid hL
  have HSL := Lib.hid hs
  have HV := Lib.hid hv
  have HS := Lib.hid (And.intro hsz3 (And.intro hf3 (And.intro r1 (And.intro r2 r3))))
  clear hW3 hsz3 hf3 r1 r2 r3 hN hL hs hv
  go_enter Tryz.func21, Tryz.ntmps21
  go_wp2_with fail
  rw [← HW3.out]
  clear HW3
  obtain ⟨hsz3, hf3, r1, r2, r3⟩ := HS.out
  refine (toNetwork_any _ N _ (HN.out.keep hf3)).mono ?_
  rintro e1 w1 ⟨v1, rfl, hn1, hf⟩
  obtain ⟨g1, g2, hv1, _⟩ := id hn1
  subst hv1
  have s1 := r1.keep hf
  have s2 := r2.keep hf
  have s3 := r3.keep hf
  have k12 := s1.cell (i := 2) rfl
  have k30 := s3.cell (i := 0) rfl
  have k31 := s3.cell (i := 1) rfl
  have z30 := s3.frozen 0
  have z31 := s3.frozen 1
  obtain ⟨w2, hw2⟩ : ∃ w2, w2 = (w1.setCell ⟨w.heap.size + 1 + 1, 0, none⟩ (.slice (some ⟨g1, 0, none⟩) N.nodes.length N.nodes.length)).setCell ⟨w.heap.size + 1 + 1, 1, none⟩ (.slice (some ⟨g2, 0, none⟩) N.fibers.length N.fibers.length) := ⟨_, rfl⟩
  have hfw : Fresh w w2 := by rw [hw2]; exact fset (fset (fstep hf3 hf) (by omega) _) (by omega) _
  have hn2 : NetOwn w2 W3.heap.size (.agg #[.slice (some ⟨g1, 0, none⟩) N.nodes.length N.nodes.length, .slice (some ⟨g2, 0, none⟩) N.fibers.length N.fibers.length]) N := by
    rw [hw2]; exact (hn1.setOther (by omega) _).setOther (by omega) _
  have t2 : RowAt w2 (w.heap.size + 1) 38 [.slice none 0 0, .slice none 0 0, .slice none 0 0] := by rw [hw2]; exact (s2.setOther (by omega) _).setOther (by omega) _
  have t3 : RowAt w2 (w.heap.size + 1 + 1) 38 [.slice (some ⟨g1, 0, none⟩) N.nodes.length N.nodes.length, .slice (some ⟨g2, 0, none⟩) N.fibers.length N.fibers.length, .slice none 0 0] := by rw [hw2]; exact (s3.set 0 _).set 1 _
  have HW2 := Lib.hid hw2
  have HT := Lib.hid (And.intro hfw (And.intro hn2 (And.intro t2 (And.intro t3 hsz3))))
  clear s1 s2 s3 r1 r2 r3 hn1 hf hf3 HS hsz3 hw2 hfw hn2 t2 t3
  go_wp2_with fail
  rw [← HW2.out]
  clear HW2 k12 k30 k31 z30 z31
  refine (toLightS_any r e l _ (HL.out.keep HT.out.1) HSL.out).mono ?_
  rintro e2 w3 ⟨l', rfl, hlv, hrow, hown, hb⟩
  obtain ⟨hfw, hn2, t2, t3, hsz3⟩ := HT.out
  have hlt := t3.lt
  have u2 := t2.keep hb
  have u3 := t3.keep hb
  have k20 := u2.cell (i := 0) rfl
  have k21 := u2.cell (i := 1) rfl
  have k22 := u2.cell (i := 2) rfl
  have z20 := u2.frozen 0
  have z21 := u2.frozen 1
  have z22 := u2.frozen 2
  have k30 := u3.cell (i := 0) rfl
  have k31 := u3.cell (i := 1) rfl
  have k32 := u3.cell (i := 2) rfl
  have z32 := u3.frozen 2
  have HR := Lib.hid (And.intro (hn2.keep hb) (And.intro (fstep hfw hb) (And.intro hlv (And.intro hrow (And.intro hown (And.intro hlt hsz3))))))
  clear u2 u3 t2 t3 hn2 hfw hb HT hsz3 hlv hrow hown hlt
  go_wp2
  obtain ⟨hn3, hf, hlv, hrow, hown, hlt, hsz3⟩ := HR.out
  refine bodyPost_ret (v := .agg #[.slice (some ⟨g1, 0, none⟩) N.nodes.length N.nodes.length, .slice (some ⟨g2, 0, none⟩) N.fibers.length N.fibers.length, .slice (some ⟨w2.heap.size, 0, none⟩) l'.length l'.length]) (by simp [results, Tryz.results21, go_sem, k20, k21, k22]) rfl ?_
  refine ⟨_, rfl, ⟨_, _, _, _, _, _, w2.heap.size, l', rfl, NetOwn.mono (base := W3.heap.size) ?_ (by omega), ?_, (by omega), ?_, HSM.out, hlv.trans HV.out.symm⟩, ?_⟩
  · repeat (refine NetOwn.setOther ?_ (by omega) _)
    exact hn3
  · repeat (refine RowAt.setOther ?_ (by omega) _)
    exact hrow
  · intro x hx
    refine Own.mono (base := w2.heap.size + 1) ?_ (by omega)
    repeat (refine Own.setOther ?_ (by omega) _)
    exact hown x hx
  · repeat (refine fset ?_ (by omega) _)
    exact hf
def SdRaw (w : World) (v : Value) (S : SdV) : Prop := ∃ q m c p k d r i e t y, v = .agg #[.slice q m c, .slice p k d, .slice r i e, .slice t S.2.1.length y, .int .i64 S.2.2] ∧ PlRaw w (.agg #[.slice q m c, .slice p k d, .slice r i e]) S.1 ∧ Ints w t S.2.1 ∧ S.2.1.length ≤ 9223372036854775807
def SdSmall (S : SdV) : Prop := PlSmall S.1 ∧ S.2.1.length ≤ 1048576
theorem SdRaw.keep {w w' : World} {v : Value} {S : SdV} (h : SdRaw w v S) (hb : Fresh w w') : SdRaw w' v S := by
  obtain ⟨q, m, c, p, k, d, r, i, e, t, y, h1, h2, h3, h4⟩ := h
  exact ⟨q, m, c, p, k, d, r, i, e, t, y, h1, h2.keep hb, h3.keep hb, h4⟩
theorem SdRaw.small {w : World} {v : Value} {S : SdV} (h : SdRaw w v S) (hs : SdSmall S) : SdIn w v S := by
  obtain ⟨q, m, c, p, k, d, r, i, e, t, y, h1, h2, h3, h4⟩ := h
  exact ⟨q, m, c, p, k, d, r, i, e, t, y, h1, h2.small hs.1, h3, hs.2⟩
theorem SdRaw.shape {w : World} {v : Value} {S : SdV} (h : SdRaw w v S) : ∃ q m c p k d r i e t n y b, v = .agg #[.slice q m c, .slice p k d, .slice r i e, .slice t n y, .int .i64 b] := by
  obtain ⟨q, m, c, p, k, d, r, i, e, t, y, h1, _⟩ := h
  exact ⟨_, _, _, _, _, _, _, _, _, _, _, _, _, h1⟩
theorem SdIn.shape {w : World} {v : Value} {S : SdV} (h : SdIn w v S) : ∃ q m c p k d r i e t n y b, v = .agg #[.slice q m c, .slice p k d, .slice r i e, .slice t n y, .int .i64 b] := by
  obtain ⟨q, m, c, p, k, d, r, i, e, t, y, h1, _⟩ := h
  exact ⟨_, _, _, _, _, _, _, _, _, _, _, _, _, h1⟩
theorem SdIn.isSmall {w : World} {v : Value} {S : SdV} (h : SdIn w v S) : SdSmall S := by
  obtain ⟨q, m, c, p, k, d, r, i, e, t, y, h1, h2, h3, h4⟩ := h
  exact ⟨h2.isSmall, h4⟩
set_option maxHeartbeats 1000000 in
theorem szSd_k (v : Value) (S : SdV) (left : Int) (w : World) (h : SdRaw w v S) (h0 : 0 ≤ left) (h1 : left ≤ 1048576) : Calls Tryz.prog 9 #[v, .int .i64 left] w (SzOut w left (SdSmall S)) := by
  obtain ⟨P, ids, bk⟩ := S
  obtain ⟨q, m, c, p, k, d, r, i, e0, t, y, rfl, hP, ht, hn⟩ := h
  simp only at hP ht hn ⊢
  have HP := Lib.hid hP
  clear hP ht
  go_enter Tryz.func9, Tryz.ntmps9
  go_wp2_with fail
  refine (szPlan_k _ P left _ (HP.out.keep (fnew (frefl _) _)) h0 h1).mono ?_
  rintro e1 w1 ⟨r1, rfl, r0, r1', hr, hf⟩
  have hb1 := box hf 3 (v := .slice t ids.length y) rfl
  have HW := Lib.hid (fstep (fnew (frefl _) _) hf)
  have HR := Lib.hid hr
  clear hf hr
  by_cases hneg : r1 < 0
  · go_wp2
    go_ret
    exact ⟨_, rfl, by omega, by omega, fun h => by omega, HW.out⟩
  · go_wp2_with fail
    refine (szIntS_any t ids.length y r1 _ hn (by omega) (by omega)).mono ?_
    rintro e2 w2 ⟨r2, rfl, r20, r21, hr2, hf2⟩
    have HW2 := Lib.hid (fstep HW.out hf2)
    have HR2 := Lib.hid hr2
    clear hf2 hr2
    by_cases hneg2 : r2 < 0
    · go_wp2
      go_ret
      exact ⟨_, rfl, by omega, by omega, fun h => by omega, HW2.out⟩
    · go_wp2
      go_ret
      exact ⟨_, rfl, by omega, by omega, fun h => ⟨HR.out (by omega), HR2.out h⟩, HW2.out⟩
/-- A served plan of the argument's own. -/
def SdMine (w : World) (lo hi : Nat) (v : Value) : Prop := ∃ q m c p k d r i e t n y b, v = .agg #[.slice q m c, .slice p k d, .slice r i e, .slice t n y, .int .i64 b] ∧ PlMine w lo hi (.agg #[.slice q m c, .slice p k d, .slice r i e]) ∧ OwnIn w lo hi 3 t n ∧ n ≤ 1048576
theorem SdMine.keep {w w' : World} {lo hi : Nat} {v : Value} (h : SdMine w lo hi v) (hb : Fresh w w') : SdMine w' lo hi v := by
  obtain ⟨q, m, c, p, k, d, r, i, e, t, n, y, b, h1, h2, h3, h4⟩ := h
  exact ⟨q, m, c, p, k, d, r, i, e, t, n, y, b, h1, h2.keep hb, h3.keep hb, h4⟩
theorem PlMine.wide {w : World} {lo : Nat} {v : Value} {P : PlanV} {b3 : Nat} (h : PlMade w b3 v P) (hl : lo ≤ b3) : PlIn w v P ∧ PlMine w lo w.heap.size v := by
  have h2 : PlMade w lo v P := by
    obtain ⟨q, m, c, p, k, d, g, l, h1, h2, h3, h4, h5, h6⟩ := h
    exact ⟨q, m, c, p, k, d, g, l, h1, h2.mono hl, h3, Nat.le_trans hl h4, fun x hx => (h5 x hx).mono hl, h6⟩
  exact h2.both
theorem sd_made {w0 w' : World} {base b3 g : Nat} {q p r : Option Addr} {m c k d i e : Nat} {P : PlanV} {ids : List Int} {bk : Int} (hm : PlMade w' b3 (.agg #[.slice q m c, .slice p k d, .slice r i e]) P) (hr : RowAt w' g 3 (ids.map iv)) (h3 : base ≤ b3) (hg : base ≤ g) (hn : ids.length ≤ 1048576) (hf : Fresh w0 w') :
    SdIn w' (.agg #[.slice q m c, .slice p k d, .slice r i e, .slice (some ⟨g, 0, none⟩) ids.length ids.length, .int .i64 bk]) (P, ids, bk) ∧ SdMine w' base w'.heap.size (.agg #[.slice q m c, .slice p k d, .slice r i e, .slice (some ⟨g, 0, none⟩) ids.length ids.length, .int .i64 bk]) ∧ Fresh w0 w' := by
  obtain ⟨a1, a2⟩ := PlMine.wide hm h3
  refine ⟨⟨q, m, c, p, k, d, r, i, e, _, _, rfl, a1, hr.cells, hn⟩, ⟨q, m, c, p, k, d, r, i, e, _, _, _, _, rfl, a2, ?_, hn⟩, hf⟩
  have := hr.ownIn hg
  rwa [List.length_map] at this
set_option maxHeartbeats 4000000 in
set_option maxRecDepth 20000 in
theorem toSd_o (v : Value) (S : SdV) (w : World) (h : SdIn w v S) : Calls Tryz.prog 11 #[v] w fun e w' => ∃ v', e = .returned v' ∧ SdIn w' v' S ∧ SdMine w' w.heap.size w'.heap.size v' ∧ Fresh w w' := by
  obtain ⟨P, ids, bk⟩ := S
  obtain ⟨q, m, c, p, k, d, r, i, e0, t, y, rfl, hP, ht, hn⟩ := h
  simp only at hP ht hn ⊢
  obtain ⟨W3, hW3, hsz3, hf3, r1, r2, r3⟩ := three_rows w [.slice q m c, .slice p k d, .slice r i e0, .slice t ids.length y, .int .i64 bk] [.slice none 0 0, .slice none 0 0, .slice none 0 0, .slice none 0 0, .int .i64 0] [.slice none 0 0, .slice none 0 0, .slice none 0 0, .slice none 0 0, .int .i64 0] 31 42 42
  have HC := Lib.hid (toPlan_w _ P W3 (hP.keep hf3))
  have HT := Lib.hid ht
  have HF3 := Lib.hid hf3
  have HR1 := Lib.hid r1
  have HR2 := Lib.hid r2
  have HR3 := Lib.hid r3
  have HW3 := Lib.hid hW3
  clear hP ht hf3 r1 r2 r3 hW3
  go_enter Tryz.func11, Tryz.ntmps11
  go_wp2_with fail
  rw [← HW3.out]
  refine (HC.out).mono ?_
  rintro e1 w1 ⟨v1, rfl, hm, hf⟩
  obtain ⟨a0, a1, a2, b0, b1, b2, c0, c1, c2, hv1⟩ := hm.shape
  subst hv1
  have s3 := HR3.out.keep hf
  have k30 := s3.cell (i := 0) rfl
  have k31 := s3.cell (i := 1) rfl
  have k32 := s3.cell (i := 2) rfl
  have z30 := s3.frozen 0
  have z31 := s3.frozen 1
  have z32 := s3.frozen 2
  obtain ⟨w2, hw2⟩ : ∃ w2, w2 = ((w1.setCell ⟨w.heap.size + 1 + 1, 0, none⟩ (.slice a0 a1 a2)).setCell ⟨w.heap.size + 1 + 1, 1, none⟩ (.slice b0 b1 b2)).setCell ⟨w.heap.size + 1 + 1, 2, none⟩ (.slice c0 c1 c2) := ⟨_, rfl⟩
  have hfw : Fresh w w2 := by rw [hw2]; exact fset (fset (fset (fstep HF3.out hf) (by omega) _) (by omega) _) (by omega) _
  have hm2 : PlMade w2 W3.heap.size (.agg #[.slice a0 a1 a2, .slice b0 b1 b2, .slice c0 c1 c2]) P := by rw [hw2]; exact ((hm.setOther (by omega) _).setOther (by omega) _).setOther (by omega) _
  have t1 : RowAt w2 w.heap.size 31 [.slice q m c, .slice p k d, .slice r i e0, .slice t ids.length y, .int .i64 bk] := by rw [hw2]; exact (((HR1.out.keep hf).setOther (by omega) _).setOther (by omega) _).setOther (by omega) _
  have t2 : RowAt w2 (w.heap.size + 1) 42 [.slice none 0 0, .slice none 0 0, .slice none 0 0, .slice none 0 0, .int .i64 0] := by rw [hw2]; exact (((HR2.out.keep hf).setOther (by omega) _).setOther (by omega) _).setOther (by omega) _
  have t3 : RowAt w2 (w.heap.size + 1 + 1) 42 [.slice a0 a1 a2, .slice b0 b1 b2, .slice c0 c1 c2, .slice none 0 0, .int .i64 0] := by rw [hw2]; exact ((s3.set 0 _).set 1 _).set 2 _
  have k13 := (HR1.out.keep hf).cell (i := 3) rfl
  have HC2 := Lib.hid (toIntS_any t y ids w2 (HT.out.keep hfw) hn)
  have HW2 := Lib.hid hw2
  have HS := Lib.hid (And.intro hfw (And.intro hm2 (And.intro t1 (And.intro t2 t3))))
  clear s3 hm hf hw2 hfw hm2 t1 t2 t3 HC
  go_wp2_with fail
  rw [← HW2.out]
  clear HW2 k30 k31 k32 z30 z31 z32 k13
  refine (HC2.out).mono ?_
  rintro e2 w3 ⟨rfl, hrow, hb⟩
  obtain ⟨hfw, hm2, t1, t2, t3⟩ := HS.out
  have hlt := t3.lt
  have u1 := t1.keep hb
  have u2 := t2.keep hb
  have u3 := t3.keep hb
  have k14 := u1.cell (i := 4) rfl
  have k20 := u2.cell (i := 0) rfl
  have k21 := u2.cell (i := 1) rfl
  have k22 := u2.cell (i := 2) rfl
  have k23 := u2.cell (i := 3) rfl
  have k24 := u2.cell (i := 4) rfl
  have z20 := u2.frozen 0
  have z21 := u2.frozen 1
  have z22 := u2.frozen 2
  have z23 := u2.frozen 3
  have z24 := u2.frozen 4
  have k30 := u3.cell (i := 0) rfl
  have k31 := u3.cell (i := 1) rfl
  have k32 := u3.cell (i := 2) rfl
  have k33 := u3.cell (i := 3) rfl
  have k34 := u3.cell (i := 4) rfl
  have z33 := u3.frozen 3
  have z34 := u3.frozen 4
  have HR := Lib.hid (And.intro (hm2.keep hb) (And.intro (fstep hfw hb) (And.intro hrow (And.intro hlt hsz3))))
  clear u1 u2 u3 t1 t2 t3 hm2 hfw hb HS hsz3 hrow hlt HC2
  go_wp2
  obtain ⟨hm3, hf, hrow, hlt, hsz3⟩ := HR.out
  refine bodyPost_ret (v := .agg #[.slice a0 a1 a2, .slice b0 b1 b2, .slice c0 c1 c2, .slice (some ⟨w2.heap.size, 0, none⟩) ids.length ids.length, .int .i64 bk]) (by simp [results, Tryz.results11, go_sem, k20, k21, k22, k23, k24]) rfl ?_
  refine ⟨_, rfl, sd_made (b3 := W3.heap.size) (g := w2.heap.size) ?_ ?_ (by omega) (by omega) hn ?_⟩
  · repeat (refine PlMade.setOther ?_ (by omega) _)
    exact hm3
  · repeat (refine RowAt.setOther ?_ (by omega) _)
    exact hrow
  · repeat (refine fset ?_ (by omega) _)
    exact hf
theorem toSd_k (v : Value) (S : SdV) (w : World) (h : SdIn w v S) : Calls Tryz.prog 11 #[v] w fun e w' => ∃ v', e = .returned v' ∧ SdIn w' v' S ∧ Fresh w w' :=
  (toSd_o v S w h).mono (fun _ _ ⟨v', h1, h2, _, h4⟩ => ⟨v', h1, h2, h4⟩)
set_option maxHeartbeats 2000000 in
theorem eqSd_k (v v' : Value) (S : SdV) (w : World) (h : SdIn w v S) (h' : SdIn w v' S) : Calls Tryz.prog 14 #[v, v'] w fun e w' => e = .returned (.bool true) ∧ Fresh w w' := by
  obtain ⟨P, ids, bk⟩ := S
  obtain ⟨q, m, c, p, k, d, r, i, e0, t, y, rfl, hP, ht, hn⟩ := h
  obtain ⟨q', m', c', p', k', d', r', i', e', t', y', rfl, hP', ht', hn'⟩ := h'
  simp only at hP ht hn hP' ht' hn' ⊢
  obtain ⟨W2, hW2, hsz2, hf2, r1, r2⟩ := two_rows w [.slice q m c, .slice p k d, .slice r i e0, .slice t ids.length y, .int .i64 bk] [.slice q' m' c', .slice p' k' d', .slice r' i' e', .slice t' ids.length y', .int .i64 bk] 42 42
  have HC := Lib.hid (eqPlan_k _ _ P W2 (hP.keep hf2) (hP'.keep hf2))
  have HR1 := Lib.hid r1
  have HR2 := Lib.hid r2
  have HT := Lib.hid ht
  have HT' := Lib.hid ht'
  have HF2 := Lib.hid hf2
  have HW2 := Lib.hid hW2
  clear hW2 hsz2 hf2 r1 r2 hP hP' ht ht'
  go_enter Tryz.func14, Tryz.ntmps14
  go_wp2_with fail
  rw [← HW2.out]
  refine (HC.out).mono ?_
  rintro e1 w1 ⟨rfl, hf⟩
  have k13 := (HR1.out.keep hf).cell (i := 3) rfl
  have k23 := (HR2.out.keep hf).cell (i := 3) rfl
  have HF := Lib.hid hf
  have HC2 := Lib.hid (eqIntS_r t t' y y' ids w1 (HT.out.keep (fstep HF2.out hf)) (HT'.out.keep (fstep HF2.out hf)) hn)
  clear hf HC
  go_wp2_with fail
  refine (HC2.out).mono ?_
  rintro e2 w2 ⟨rfl, hf⟩
  have k14 := ((HR1.out.keep HF.out).keep hf).cell (i := 4) rfl
  have k24 := ((HR2.out.keep HF.out).keep hf).cell (i := 4) rfl
  have HFF := Lib.hid (fstep HF2.out (fstep HF.out hf))
  clear hf HC2 k13 k23
  go_wp2
  go_ret
  exact ⟨rfl, HFF.out⟩
set_option maxHeartbeats 2000000 in
theorem markSd_m (v : Value) (lo hi : Nat) (k0 : Int) (w : World) (h : SdMine w lo hi v) (hlo : lo ≤ w.heap.size) (hhi : hi ≤ w.heap.size) (h0 : 0 ≤ k0) (h1 : k0 ≤ 281474976710656) :
    Calls Tryz.prog 15 #[v, .int .i64 k0] w fun e w' => ∃ k1, e = .returned (.int .i64 k1) ∧ k0 ≤ k1 ∧ k1 ≤ k0 + 35184372088832 ∧ Mk plT lo hi w w' := by
  obtain ⟨q, m, c, p, k, d, r, i, e0, t, n, y, b, rfl, hP, ho, hn⟩ := h
  obtain ⟨W1, hW1⟩ : ∃ W1, W1 = w.alloc (.cells #[.slice q m c, .slice p k d, .slice r i e0, .slice t n y, .int .i64 b] 42) := ⟨_, rfl⟩
  have hf : Fresh w W1 := by rw [hW1]; exact fnew (frefl _) _
  have hr : RowAt W1 w.heap.size 42 [.slice q m c, .slice p k d, .slice r i e0, .slice t n y, .int .i64 b] := by rw [hW1]; exact RowAt.new _ _ _
  have hz := hf.size
  have HC := Lib.hid (markPlan_m _ lo hi k0 W1 (hP.keep hf) (by omega) (by omega) h0 h1)
  have HW := Lib.hid hW1
  have HF := Lib.hid hf
  have HR := Lib.hid hr
  have HO := Lib.hid ho
  clear hW1 hf hr hP ho
  go_enter Tryz.func15, Tryz.ntmps15
  go_wp2_with fail
  rw [← HW.out]
  refine (HC.out).mono ?_
  rintro e w1 ⟨k1, rfl, hk1, hk2, hb1⟩
  have c3 := hb1.cell (Or.inr hhi) (HR.out.cell (i := 3) rfl)
  have HM := Lib.hid hb1
  clear hb1 HC
  go_wp2_with fail
  refine (markIntS_m t y n lo hi k1 _ ((HO.out.keep HF.out).mk HM.out) (by omega) (by omega) (by omega)).mono ?_
  rintro e w2 ⟨rfl, hb2⟩
  have HM2 := Lib.hid hb2
  clear hb2 c3
  go_wp2
  go_ret
  refine ⟨_, rfl, by omega, by omega, ?_⟩
  exact (Mk.fresh HF.out hlo).trans ((HM.out).trans (HM2.out.more (fun t h => by subst h; decide)))
section
open Go.ChangeShapes Go.WideShapes Go.ChangeAt Go.Joins
variable {H : Type} {enc : TypeId × Value → H}
theorem cells_sd3 : Tryz.prog.cellsOf 28 = 3 := by kernel_rfl
theorem cells_sd1 : Tryz.prog.cellsOf 29 = 1 := by kernel_rfl
theorem cells_sd5 : Tryz.prog.cellsOf 31 = 5 := by kernel_rfl
set_option maxRecDepth 100000 in
theorem sd_of_cells {W : World} {fuel : Nat} {cs : List Value} {x : DataW H × List MemPlace} (h : DataW.trod enc Tryz.prog W 0 (fun _ => true) true fuel 31 cs = some x) : ∃ S, SdRaw W (.agg cs.toArray) S := by
  obtain ⟨y0, y1, y2, k, _, hlen, h0, h1, h2⟩ := Go.Deep.trod_struct3 Tryz.underlying31 h
  rw [cells_sd5] at hlen
  match cs, hlen with
  | [u0, u1, u2, u3, u4], _ =>
    have h0' : DataW.trod enc Tryz.prog W 0 (fun _ => true) true k 28 [u0, u1, u2] = some y0 := by
      have := h0; simp only at this; rw [cells_sd3] at this; exact this
    have h1' : DataW.trod enc Tryz.prog W 0 (fun _ => true) true k 29 [u3] = some y1 := by
      have := h1; simp only at this; rw [cells_sd1] at this; exact this
    have h2' : DataW.trod enc Tryz.prog W 0 (fun _ => true) true k 3 [u4] = some y2 := by
      have := h2; simp only at this; rw [cells_i] at this; exact this
    obtain ⟨P, hP⟩ := pl_of_cells h0'
    obtain ⟨q, cap, l, e1, hI, hn⟩ := ints_of_cells h1'
    obtain ⟨b, e2, _, _⟩ := DataW.trod_int Tryz.underlying3 h2'
    obtain ⟨a0, a1, a2, b0, b1, b2, c0, c1, c2, hs⟩ := hP.shape
    simp at hs
    obtain ⟨rfl, rfl, rfl⟩ := hs
    cases e1; cases e2
    exact ⟨(P, l, b), a0, a1, a2, b0, b1, b2, c0, c1, c2, q, cap, rfl, hP, hI, hn⟩
set_option maxRecDepth 100000 in
theorem sd_of_trod {W : World} {r : Reach} {b : Nat} {v : Value} {d : DataW H} {p : List MemPlace} (hok : Value.okWide Tryz.prog W r b 31 v)
    (h : DataW.Trod enc Tryz.prog W 0 (fun _ => true) true 31 v d p) : ∃ S, SdRaw W v S := by
  obtain ⟨cs, rfl, _⟩ := okWide_struct Tryz.underlying31 hok
  obtain ⟨fuel, hfu⟩ := h
  have := sd_of_cells hfu
  simpa [Value.cells] using this
end
end Go.Proofs.YteckjlkhopkogaaGreat
