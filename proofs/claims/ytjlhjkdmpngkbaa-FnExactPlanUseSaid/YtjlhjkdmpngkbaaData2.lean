/- Contracts: networks: sizes, copies, comparisons. -/
import Derived.Test.YtjlhjkdmpngkbaaData
namespace Go.Proofs.Ytjlhjkdmpngkbaa
open Go.RowKit Go.PlainAid

/-- A network that came in, of any bulk. -/
def NetRaw (w : World) (v : Value) (n : Net) : Prop := ∃ q c p d, v = .agg #[.slice q n.nodes.length c, .slice p n.fibers.length d] ∧ Strs w q n.nodes ∧ Fibs w p n.fibers ∧ n.nodes.length ≤ 9223372036854775807 ∧ n.fibers.length ≤ 9223372036854775807 ∧ n.nodes.length ≤ c ∧ c ≤ 9223372036854775807 ∧ ∀ s ∈ n.nodes, s.size ≤ 9223372036854775807
def NetSmall (n : Net) : Prop := (n.nodes.length ≤ 1048576 ∧ ∀ s ∈ n.nodes, s.size ≤ 1048576) ∧ n.fibers.length ≤ 1048576
theorem NetRaw.small {w : World} {v : Value} {n : Net} (h : NetRaw w v n) (hs : NetSmall n) : NetIn w v n := by
  obtain ⟨q, c, p, d, h1, h2, h3, h4, h5, h6, h7, h8⟩ := h
  exact ⟨q, c, p, d, h1, h2, h3, hs.1.1, hs.2, h6, h7, hs.1.2⟩
theorem NetRaw.keep {w w' : World} {v : Value} {n : Net} (h : NetRaw w v n) (hb : Fresh w w') : NetRaw w' v n := by
  obtain ⟨q, c, p, d, h1, h2, h3, r⟩ := h
  exact ⟨q, c, p, d, h1, h2.keep hb, h3.keep hb, r⟩
/-- A network of the call's own. -/
def NetOwn (w : World) (base : Nat) (v : Value) (n : Net) : Prop := ∃ g1 g2, v = .agg #[.slice (some ⟨g1, 0, none⟩) n.nodes.length n.nodes.length, .slice (some ⟨g2, 0, none⟩) n.fibers.length n.fibers.length] ∧
  base ≤ g1 ∧ g1 < g2 ∧ RowAt w g1 9 (n.nodes.flatMap strC) ∧ RowAt w g2 170 (n.fibers.flatMap fibC)
theorem NetOwn.keep {w w' : World} {base : Nat} {v : Value} {n : Net} (h : NetOwn w base v n) (hb : Fresh w w') : NetOwn w' base v n := by
  obtain ⟨g1, g2, h1, h2, h3, h4, h5⟩ := h
  exact ⟨g1, g2, h1, h2, h3, h4.keep hb, h5.keep hb⟩
theorem NetOwn.net {w : World} {base : Nat} {v : Value} {n : Net} (h : NetOwn w base v n) (hs : NetSmall n) : NetIn w v n := by
  obtain ⟨g1, g2, h1, h2, h3, h4, h5⟩ := h
  refine ⟨_, _, _, _, h1, ?_, h5.cells, hs.1.1, hs.2, Nat.le_refl _, by have := hs.1.1; omega, hs.1.2⟩
  have := h4.cells
  unfold Strs; rw [strs_flat]; exact this
def OutNet (w : World) (n : Net) (e : Ending) (w' : World) : Prop := ∃ v, e = .returned v ∧ NetOwn w' w.heap.size v n ∧ Fresh w w'

set_option maxHeartbeats 1000000 in
theorem szNetwork_any (v : Value) (n : Net) (left : Int) (w : World) (h : NetRaw w v n) (h0 : 0 ≤ left) (h1 : left ≤ 1048576) : Calls Try.prog 15 #[v, .int .i64 left] w (SzOut w left (NetSmall n)) := by
  obtain ⟨N, F⟩ := n
  obtain ⟨q, c, p, d, rfl, hN, hF, n1, n2, n3, n4, hsz⟩ := h
  simp only at hN hF n1 n2 n3 hsz ⊢
  have HSZ := Lib.hid hsz
  clear hsz
  go_enter Try.func15, Try.ntmps15
  go_wp2_with fail
  refine (szStringS_any q c N left _ (hN.keep (fnew (frefl _) _)) n1 HSZ.out h0 h1).mono ?_
  rintro e w1 ⟨r, rfl, r0, r1, hr, hf⟩
  have hb1 := box hf 1 (v := .slice p F.length d) rfl
  have HW := Lib.hid (fstep (fnew (frefl _) _) hf)
  have HR := Lib.hid hr
  clear hf hr
  by_cases hneg : r < 0
  · go_wp2
    go_ret
    exact ⟨_, rfl, by omega, by omega, fun h => by omega, HW.out⟩
  · go_wp2_with fail
    refine (szFiberS_any p F.length d r _ n2 (by omega) (by omega)).mono ?_
    rintro e w2 ⟨r2, rfl, r20, r21, hr2, hf2⟩
    have HW2 := Lib.hid (fstep HW.out hf2)
    have HR2 := Lib.hid hr2
    clear hf2 hr2
    by_cases hneg2 : r2 < 0
    · go_wp2
      go_ret
      exact ⟨_, rfl, by omega, by omega, fun h => by omega, HW2.out⟩
    · go_wp2
      go_ret
      exact ⟨_, rfl, by omega, by omega, fun h => ⟨HR.out (by omega), HR2.out h⟩, HW2.out⟩

set_option maxHeartbeats 1000000 in
theorem eqNetwork_same (v v' : Value) (n : Net) (w : World) (h : NetIn w v n) (h' : NetIn w v' n) : Calls Try.prog 21 #[v, v'] w fun e w' => e = .returned (.bool true) ∧ Fresh w w' := by
  obtain ⟨N, F⟩ := n
  obtain ⟨q, c, p, d, rfl, hN, hF, n1, n2, n3, n4, hsz⟩ := h
  obtain ⟨q', c', p', d', rfl, hN', hF', n1', n2', n3', n4', hsz'⟩ := h'
  simp only at hN hF hN' hF' n1 n2 n3 n1' n2' n3' ⊢
  clear hsz hsz'
  go_enter Try.func21, Try.ntmps21
  go_wp2_with fail
  refine (eqStringS_same q q' c c' N _ (hN.keep (fnew (fnew (frefl _) _) _)) (hN'.keep (fnew (fnew (frefl _) _) _)) (by omega)).mono ?_
  rintro e w1 ⟨rfl, hf⟩
  have hA : w1.cell? ⟨w.heap.size, 1, none⟩ = some (.slice p F.length d) := ((RowAt.new w _ [.slice q N.length c, .slice p F.length d]).alloc _ |>.keep hf).cell rfl
  have hB : w1.cell? ⟨w.heap.size + 1, 1, none⟩ = some (.slice p' F.length d') := by
    have hr := RowAt.new (w.alloc (.cells #[.slice q N.length c, .slice p F.length d] 32)) 32 [.slice q' N.length c', .slice p' F.length d']
    have hr' := RowAt.keep hr hf
    have := hr'.cell (i := 1) (v := .slice p' F.length d') rfl
    simpa using this
  have HW := Lib.hid (fstep (fnew (fnew (frefl _) _) _) hf)
  clear hf
  go_wp2_with fail
  refine (eqFiberS_same p p' d d' F _ (hF.keep HW.out) (hF'.keep HW.out) (by omega)).mono ?_
  rintro e w2 ⟨rfl, hf2⟩
  have HW2 := Lib.hid (fstep HW.out hf2)
  clear hf2
  go_wp2
  go_ret
  exact ⟨rfl, HW2.out⟩

set_option maxHeartbeats 2000000 in
theorem toNetwork_any (v : Value) (n : Net) (w : World) (h : NetIn w v n) : Calls Try.prog 18 #[v] w (OutNet w n) := by
  obtain ⟨N, F⟩ := n
  obtain ⟨q, c, p, d, rfl, hN, hF, n1, n2, n3, n4, hsz⟩ := h
  simp only at hN hF n1 n2 n3 hsz ⊢
  clear hsz
  go_enter Try.func18, Try.ntmps18
  go_wp2_with fail
  obtain ⟨W3, hW3⟩ : ∃ W3, W3 = ((w.alloc (.cells #[.slice q N.length c, .slice p F.length d] 25)).alloc (.cells #[.slice none 0 0, .slice none 0 0] 32)).alloc (.cells #[.slice none 0 0, .slice none 0 0] 32) := ⟨_, rfl⟩
  rw [← hW3]
  have hsz3 : W3.heap.size = w.heap.size + 1 + 1 + 1 := by rw [hW3]; simp
  have hf3 : Fresh w W3 := by rw [hW3]; exact fnew (fnew (fnew (frefl _) _) _) _
  have r1 : RowAt W3 w.heap.size 25 [.slice q N.length c, .slice p F.length d] := by rw [hW3]; exact ((RowAt.new w _ [.slice q N.length c, .slice p F.length d]).alloc _).alloc _
  have r2 : RowAt W3 (w.heap.size + 1) 32 [.slice none 0 0, .slice none 0 0] := by
    rw [hW3]
    have := (RowAt.new (w.alloc (.cells #[.slice q N.length c, .slice p F.length d] 25)) 32 [.slice none 0 0, .slice none 0 0]).alloc (.cells #[.slice none 0 0, .slice none 0 0] 32)
    simpa using this
  have r3 : RowAt W3 (w.heap.size + 1 + 1) 32 [.slice none 0 0, .slice none 0 0] := by
    rw [hW3]
    have := RowAt.new ((w.alloc (.cells #[.slice q N.length c, .slice p F.length d] 25)).alloc (.cells #[.slice none 0 0, .slice none 0 0] 32)) 32 [.slice none 0 0, .slice none 0 0]
    simpa using this
  clear hW3
  have HF0 := Lib.hid hF
  refine (toStringS_any q c N _ (hN.keep hf3) n1).mono ?_
  rintro e w1 ⟨rfl, hrs, hf⟩
  have s1 := r1.keep hf
  have s2 := r2.keep hf
  have s3 := r3.keep hf
  have hF1 := (hF.keep hf3).keep hf
  have hsz1 := hf.size
  have k10 := s1.cell (i := 0) rfl
  have k11 := s1.cell (i := 1) rfl
  have k30 := s3.cell (i := 0) rfl
  have z30 := s3.frozen 0
  have HS := Lib.hid (And.intro s2 (And.intro s3 (And.intro hrs (And.intro hF1 (And.intro hf hf3)))))
  clear s1 s2 s3 r1 r2 r3 hrs hF1 hf hf3 hN hF
  go_wp2_with fail
  obtain ⟨s2, s3, hrs, hF1, hf, hf3⟩ := HS.out
  rw [hsz3] at hrs
  obtain ⟨w2, hw2⟩ : ∃ w2, w2 = w1.setCell ⟨w.heap.size + 1 + 1, 0, none⟩ (.slice (some ⟨w.heap.size + 1 + 1 + 1, 0, none⟩) N.length N.length) := ⟨_, rfl⟩
  rw [← hw2]
  have hset : Fresh w w2 := by rw [hw2]; exact fset (fstep hf3 hf) (by omega) _
  have t2 : RowAt w2 (w.heap.size + 1) 32 [.slice none 0 0, .slice none 0 0] := by rw [hw2]; exact s2.setOther (by omega) _
  have t3 : RowAt w2 (w.heap.size + 1 + 1) 32 [.slice (some ⟨w.heap.size + 1 + 1 + 1, 0, none⟩) N.length N.length, .slice none 0 0] := by rw [hw2]; exact s3.set 0 _
  have trs : RowAt w2 (w.heap.size + 1 + 1 + 1) 9 (N.flatMap strC) := by rw [hw2]; exact hrs.setOther (by omega) _
  have hlt2 := trs.lt
  clear s2 s3 hrs hF1 hf hf3 HS k10 k11 k30 z30 hw2 hsz1
  refine (toFiberS_any p d F _ (HF0.out.keep hset) n2).mono ?_
  rintro e w3 ⟨rfl, hrf, hf2⟩
  have u2 := t2.keep hf2
  have u3 := t3.keep hf2
  have urs := trs.keep hf2
  have k20 := u2.cell (i := 0) rfl
  have k21 := u2.cell (i := 1) rfl
  have z20 := u2.frozen 0
  have z21 := u2.frozen 1
  have k30 := u3.cell (i := 0) rfl
  have k31 := u3.cell (i := 1) rfl
  have z31 := u3.frozen 1
  have HS := Lib.hid (And.intro urs (And.intro hrf (And.intro hset hf2)))
  have HL := Lib.hid hlt2
  clear u2 u3 urs t2 t3 trs hrf hset hf2 hlt2 hsz3
  go_wp2
  obtain ⟨urs, hrf, hset, hf2⟩ := HS.out
  have hlt2 := HL.out
  refine bodyPost_ret (v := .agg #[.slice (some ⟨w.heap.size + 1 + 1 + 1, 0, none⟩) N.length N.length, .slice (some ⟨w2.heap.size, 0, none⟩) F.length F.length]) (by simp [results, Try.results18, go_sem, k20, k21]) rfl ?_
  refine ⟨_, rfl, ⟨_, _, rfl, by omega, hlt2, ?_, ?_⟩, ?_⟩
  · repeat (refine RowAt.setOther ?_ (by omega) _)
    exact urs
  · repeat (refine RowAt.setOther ?_ (by omega) _)
    exact hrf
  · repeat (refine fset ?_ (by omega) _)
    exact fstep hset hf2
end Go.Proofs.Ytjlhjkdmpngkbaa
