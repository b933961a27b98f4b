/- Contracts: plans: sizes, copies, comparisons; plans as one value. -/
import Derived.Test.YtjlhjkdmpngkbaaLt2
import Derived.Test.YtjlhjkdmpngkbaaKNet
namespace Go.Proofs.Ytjlhjkdmpngkbaa
open Go.RowKit Go.PlainAid

/-- A plan as such. -/
structure PlanV where
  net : Net
  lights : List LtV
def PlRaw (w : World) (v : Value) (P : PlanV) : Prop := ∃ q m c p k d r e l, v = .agg #[.slice q m c, .slice p k d, .slice r l.length e] ∧ NetRaw w (.agg #[.slice q m c, .slice p k d]) P.net ∧ Lts w r l ∧ l.length ≤ 9223372036854775807 ∧ (∀ x ∈ l, x.r.fibs.length ≤ 9223372036854775807) ∧ P.lights = l.map LL.val ∧ l.length ≤ e ∧ e ≤ 9223372036854775807
def LtSm (L : List LtV) : Prop := L.length ≤ 1048576 ∧ ∀ x ∈ L, x.2.1.2.length ≤ 1048576
def PlSmall (P : PlanV) : Prop := NetSmall P.net ∧ LtSm P.lights
def PlIn (w : World) (v : Value) (P : PlanV) : Prop := ∃ q m c p k d r e l, v = .agg #[.slice q m c, .slice p k d, .slice r l.length e] ∧ NetIn w (.agg #[.slice q m c, .slice p k d]) P.net ∧ Lts w r l ∧ LtsSmall l ∧ P.lights = l.map LL.val ∧ l.length ≤ e ∧ e ≤ 9223372036854775807
theorem PlRaw.keep {w w' : World} {v : Value} {P : PlanV} (h : PlRaw w v P) (hb : Fresh w w') : PlRaw w' v P := by
  obtain ⟨q, m, c, p, k, d, r, e, l, h1, h2, h3, h4⟩ := h
  exact ⟨q, m, c, p, k, d, r, e, l, h1, h2.keep hb, h3.keep hb, h4⟩
theorem PlIn.keep {w w' : World} {v : Value} {P : PlanV} (h : PlIn w v P) (hb : Fresh w w') : PlIn w' v P := by
  obtain ⟨q, m, c, p, k, d, r, e, l, h1, h2, h3, h4⟩ := h
  exact ⟨q, m, c, p, k, d, r, e, l, h1, h2.keep hb, h3.keep hb, h4⟩
theorem PlRaw.shape {w : World} {v : Value} {P : PlanV} (h : PlRaw w v P) : ∃ q m c p k d r i e, v = .agg #[.slice q m c, .slice p k d, .slice r i e] := by
  obtain ⟨q, m, c, p, k, d, r, e, l, h1, _⟩ := h
  exact ⟨_, _, _, _, _, _, _, _, _, h1⟩
theorem PlIn.shape {w : World} {v : Value} {P : PlanV} (h : PlIn w v P) : ∃ q m c p k d r i e, v = .agg #[.slice q m c, .slice p k d, .slice r i e] := by
  obtain ⟨q, m, c, p, k, d, r, e, l, h1, _⟩ := h
  exact ⟨_, _, _, _, _, _, _, _, _, h1⟩
theorem ltsm_of {l : List LL} (h : LtsSmall l) : LtSm (l.map LL.val) := by
  refine ⟨by simpa using h.1, fun x hx => ?_⟩
  obtain ⟨y, hy, rfl⟩ := List.mem_map.1 hx
  exact h.2 y hy
theorem ltsm_to {l : List LL} (h : LtSm (l.map LL.val)) : LtsSmall l := ⟨by simpa using h.1, fun x hx => h.2 x.val (List.mem_map_of_mem hx)⟩
theorem PlRaw.small {w : World} {v : Value} {P : PlanV} (h : PlRaw w v P) (hs : PlSmall P) : PlIn w v P := by
  obtain ⟨q, m, c, p, k, d, r, e, l, h1, h2, h3, _, _, h4, h5⟩ := h
  exact ⟨q, m, c, p, k, d, r, e, l, h1, h2.small hs.1, h3, ltsm_to (by rw [← h4]; exact hs.2), h4, h5⟩
theorem PlIn.isSmall {w : World} {v : Value} {P : PlanV} (h : PlIn w v P) : PlSmall P := by
  obtain ⟨q, m, c, p, k, d, r, e, l, h1, h2, h3, h4, h5, _⟩ := h
  exact ⟨h2.isSmall, by rw [h5]; exact ltsm_of h4⟩

set_option maxHeartbeats 1000000 in
theorem szPlan_k (v : Value) (P : PlanV) (left : Int) (w : World) (h : PlRaw w v P) (h0 : 0 ≤ left) (h1 : left ≤ 1048576) : Calls Try.prog 37 #[v, .int .i64 left] w (SzOut w left (PlSmall P)) := by
  obtain ⟨N, L⟩ := P
  obtain ⟨q, m, c, p, k, d, r, e, l, rfl, hN, hL, n1, n2, hv, _⟩ := h
  simp only at hN hv ⊢
  have HL := Lib.hid hL
  have HN := Lib.hid hN
  have H2 := Lib.hid n2
  have HV := Lib.hid hv
  clear hL hN n2 hv
  go_enter Try.func37, Try.ntmps37
  go_wp2_with fail
  refine (szNetwork_any _ N left _ (HN.out.keep (fnew (frefl _) _)) h0 h1).mono ?_
  rintro e1 w1 ⟨r1, rfl, r0, r1', hr, hf⟩
  have hb1 := box hf 2 (v := .slice r l.length e) rfl
  have HW := Lib.hid (fstep (fnew (frefl _) _) hf)
  have HR := Lib.hid hr
  clear hf hr
  by_cases hneg : r1 < 0
  · go_wp2
    go_ret
    exact ⟨_, rfl, by omega, by omega, fun h => by omega, HW.out⟩
  · go_wp2_with fail
    refine (szLightS_any r e l r1 _ (HL.out.keep HW.out) n1 H2.out (by omega) (by omega)).mono ?_
    rintro e2 w2 ⟨r2, rfl, r20, r21, hr2, hf2⟩
    have HW2 := Lib.hid (fstep HW.out hf2)
    have HR2 := Lib.hid hr2
    clear hf2 hr2
    by_cases hneg2 : r2 < 0
    · go_wp2
      go_ret
      exact ⟨_, rfl, by omega, by omega, fun h => by omega, HW2.out⟩
    · go_wp2
      go_ret
      exact ⟨_, rfl, by omega, by omega, fun h => ⟨HR.out (by omega), by rw [HV.out]; exact ltsm_of (HR2.out h)⟩, HW2.out⟩

set_option maxHeartbeats 1000000 in
theorem eqPlan_k (v v' : Value) (P : PlanV) (w : World) (h : PlIn w v P) (h' : PlIn w v' P) : Calls Try.prog 41 #[v, v'] w fun e w' => e = .returned (.bool true) ∧ Fresh w w' := by
  obtain ⟨N, L⟩ := P
  obtain ⟨q, m, c, p, k, d, r, e, l, rfl, hN, hL, hs, hv, _⟩ := h
  obtain ⟨q', m', c', p', k', d', r', e', l', rfl, hN', hL', hs', hv', _⟩ := h'
  simp only at hN hv hN' hv' ⊢
  have hvv : l'.map LL.val = l.map LL.val := by rw [← hv, ← hv']
  obtain ⟨W2, hW2, hsz2, hf2, r1, r2⟩ := two_rows w [.slice q m c, .slice p k d, .slice r l.length e] [.slice q' m' c', .slice p' k' d', .slice r' l'.length e'] 62 62
  have HR1 := Lib.hid r1
  have HR2 := Lib.hid r2
  have HN := Lib.hid hN
  have HN' := Lib.hid hN'
  have HL := Lib.hid hL
  have HL' := Lib.hid hL'
  have HS := Lib.hid hs
  have HVV := Lib.hid hvv
  have HF2 := Lib.hid hf2
  have HW2 := Lib.hid hW2
  clear hW2 hsz2 hf2 r1 r2 hN hN' hL hL' hs hs' hv hv' hvv
  go_enter Try.func41, Try.ntmps41
  go_wp2_with fail
  rw [← HW2.out]
  refine (eqNetwork_same _ _ N _ (HN.out.keep HF2.out) (HN'.out.keep HF2.out)).mono ?_
  rintro e1 w1 ⟨rfl, hf⟩
  have k12 := (HR1.out.keep hf).cell (i := 2) rfl
  have k22 := (HR2.out.keep hf).cell (i := 2) rfl
  have HF := Lib.hid (fstep HF2.out hf)
  clear hf
  go_wp2_with fail
  refine (eqLightS_same r r' e e' l l' _ HVV.out (HL.out.keep HF.out) (HL'.out.keep HF.out) HS.out).mono ?_
  rintro e2 w2 ⟨rfl, hf⟩
  have HF := Lib.hid (fstep HF.out hf)
  clear hf
  go_wp2
  go_ret
  exact ⟨rfl, HF.out⟩

theorem NetOwn.setOther {w : World} {base : Nat} {v : Value} {n : Net} (h : NetOwn w base v n) {b o : Nat} (hb : b < base) (u : Value) : NetOwn (w.setCell ⟨b, o, none⟩ u) base v n := by
  obtain ⟨g1, g2, h1, h2, h3, h4, h5⟩ := h
  exact ⟨g1, g2, h1, h2, h3, h4.setOther (by omega) u, h5.setOther (by omega) u⟩
set_option maxHeartbeats 2000000 in
theorem toPlan_k (v : Value) (P : PlanV) (w : World) (h : PlIn w v P) : Calls Try.prog 39 #[v] w fun e w' => ∃ v', e = .returned v' ∧ PlIn w' v' P ∧ Fresh w w' := by
  have HSM := Lib.hid h.isSmall
  obtain ⟨N, L⟩ := P
  obtain ⟨q, m, c, p, k, d, r, e, l, rfl, hN, hL, hs, hv, _⟩ := h
  simp only at hN hv ⊢
  obtain ⟨W3, hW3, hsz3, hf3, r1, r2, r3⟩ := three_rows w [.slice q m c, .slice p k d, .slice r l.length e] [.slice none 0 0, .slice none 0 0, .slice none 0 0] [.slice none 0 0, .slice none 0 0, .slice none 0 0] 57 62 62
  have HW3 := Lib.hid hW3
  have HN := Lib.hid hN
  have HL := Lib.hid hL
  have HSL := Lib.hid hs
  have HV := Lib.hid hv
  have HS := Lib.hid (And.intro hsz3 (And.intro hf3 (And.intro r1 (And.intro r2 r3))))
  clear hW3 hsz3 hf3 r1 r2 r3 hN hL hs hv
  go_enter Try.func39, Try.ntmps39
  go_wp2_with fail
  rw [← HW3.out]
  clear HW3
  obtain ⟨hsz3, hf3, r1, r2, r3⟩ := HS.out
  refine (toNetwork_any _ N _ (HN.out.keep hf3)).mono ?_
  rintro e1 w1 ⟨v1, rfl, hn1, hf⟩
  obtain ⟨g1, g2, hv1, _⟩ := id hn1
  subst hv1
  have s1 := r1.keep hf
  have s2 := r2.keep hf
  have s3 := r3.keep hf
  have k12 := s1.cell (i := 2) rfl
  have k30 := s3.cell (i := 0) rfl
  have k31 := s3.cell (i := 1) rfl
  have z30 := s3.frozen 0
  have z31 := s3.frozen 1
  obtain ⟨w2, hw2⟩ : ∃ w2, w2 = (w1.setCell ⟨w.heap.size + 1 + 1, 0, none⟩ (.slice (some ⟨g1, 0, none⟩) N.nodes.length N.nodes.length)).setCell ⟨w.heap.size + 1 + 1, 1, none⟩ (.slice (some ⟨g2, 0, none⟩) N.fibers.length N.fibers.length) := ⟨_, rfl⟩
  have hfw : Fresh w w2 := by rw [hw2]; exact fset (fset (fstep hf3 hf) (by omega) _) (by omega) _
  have hn2 : NetOwn w2 W3.heap.size (.agg #[.slice (some ⟨g1, 0, none⟩) N.nodes.length N.nodes.length, .slice (some ⟨g2, 0, none⟩) N.fibers.length N.fibers.length]) N := by
    rw [hw2]; exact (hn1.setOther (by omega) _).setOther (by omega) _
  have t2 : RowAt w2 (w.heap.size + 1) 62 [.slice none 0 0, .slice none 0 0, .slice none 0 0] := by rw [hw2]; exact (s2.setOther (by omega) _).setOther (by omega) _
  have t3 : RowAt w2 (w.heap.size + 1 + 1) 62 [.slice (some ⟨g1, 0, none⟩) N.nodes.length N.nodes.length, .slice (some ⟨g2, 0, none⟩) N.fibers.length N.fibers.length, .slice none 0 0] := by rw [hw2]; exact (s3.set 0 _).set 1 _
  have HW2 := Lib.hid hw2
  have HT := Lib.hid (And.intro hfw (And.intro hn2 (And.intro t2 (And.intro t3 hsz3))))
  clear s1 s2 s3 r1 r2 r3 hn1 hf hf3 HS hsz3 hw2 hfw hn2 t2 t3
  go_wp2_with fail
  rw [← HW2.out]
  clear HW2 k12 k30 k31 z30 z31
  refine (toLightS_any r e l _ (HL.out.keep HT.out.1) HSL.out).mono ?_
  rintro e2 w3 ⟨l', rfl, hlv, hrow, hown, hb⟩
  obtain ⟨hfw, hn2, t2, t3, hsz3⟩ := HT.out
  have hlt := t3.lt
  have u2 := t2.keep hb
  have u3 := t3.keep hb
  have k20 := u2.cell (i := 0) rfl
  have k21 := u2.cell (i := 1) rfl
  have k22 := u2.cell (i := 2) rfl
  have z20 := u2.frozen 0
  have z21 := u2.frozen 1
  have z22 := u2.frozen 2
  have k30 := u3.cell (i := 0) rfl
  have k31 := u3.cell (i := 1) rfl
  have k32 := u3.cell (i := 2) rfl
  have z32 := u3.frozen 2
  have HR := Lib.hid (And.intro (hn2.keep hb) (And.intro (fstep hfw hb) (And.intro hlv (And.intro hrow (And.intro hown (And.intro hlt hsz3))))))
  clear u2 u3 t2 t3 hn2 hfw hb HT hsz3 hlv hrow hown hlt
  go_wp2
  obtain ⟨hn3, hf, hlv, hrow, hown, hlt, hsz3⟩ := HR.out
  refine bodyPost_ret (v := .agg #[.slice (some ⟨g1, 0, none⟩) N.nodes.length N.nodes.length, .slice (some ⟨g2, 0, none⟩) N.fibers.length N.fibers.length, .slice (some ⟨w2.heap.size, 0, none⟩) l'.length l'.length]) (by simp [results, Try.results39, go_sem, k20, k21, k22]) rfl ?_
  refine ⟨_, rfl, ⟨_, _, _, _, _, _, some ⟨w2.heap.size, 0, none⟩, l'.length, l', rfl, ?_, ⟨?_, ?_⟩, ?_, ?_, Nat.le_refl _, ?_⟩, ?_⟩
  · refine NetOwn.net (base := W3.heap.size) ?_ HSM.out.1
    repeat (refine NetOwn.setOther ?_ (by omega) _)
    exact hn3
  · refine RowAt.cells (t := 142) ?_
    repeat (refine RowAt.setOther ?_ (by omega) _)
    exact hrow
  · intro x hx
    refine Own.cells (base := w2.heap.size + 1) (t := 3) ?_
    repeat (refine Own.setOther ?_ (by omega) _)
    exact hown x hx
  · exact ltsm_to (by rw [hlv, ← HV.out]; exact HSM.out.2)
  · rw [hlv]; exact HV.out
  · have h1 := HSM.out.2.1
    have h2 := congrArg List.length hlv
    have h3 := congrArg List.length HV.out
    simp only [List.length_map] at h1 h2 h3
    omega
  · repeat (refine fset ?_ (by omega) _)
    exact hf
end Go.Proofs.Ytjlhjkdmpngkbaa
