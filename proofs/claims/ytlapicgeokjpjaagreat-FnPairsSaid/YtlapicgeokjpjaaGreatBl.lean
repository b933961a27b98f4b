/- Contracts: the length of the best pair, both sides. -/
import Derived.Test.YtlapicgeokjpjaaGreatBp4
namespace Go.Proofs.YtlapicgeokjpjaaGreat
open Go.RowKit Go.PlainAid

def plenF (n : Net) (s t k : Int) : Int × Bool := if (bestF n s t k).2.2.2 && (bestF n s t k).2.2.1 then (lenR n.fibers (bestF n s t k).1.2 + lenR n.fibers (bestF n s t k).2.1.2, true) else (0, (bestF n s t k).2.2.2)
theorem plen_no {n : Net} {s t k : Int} (h : (bestF n s t k).2.2.2 = false) : plenF n s t k = (0, false) := by unfold plenF; rw [h]; rfl
theorem plen_none {n : Net} {s t k : Int} (h : (bestF n s t k).2.2.2 = true) (h2 : (bestF n s t k).2.2.1 = false) : plenF n s t k = (0, true) := by unfold plenF; rw [h, h2]; rfl
theorem plen_some {n : Net} {s t k : Int} (h : (bestF n s t k).2.2.2 = true) (h2 : (bestF n s t k).2.2.1 = true) : plenF n s t k = (lenR n.fibers (bestF n s t k).1.2 + lenR n.fibers (bestF n s t k).2.1.2, true) := by unfold plenF; rw [h, h2]; rfl
theorem bestF_rt {n : Net} {s t k : Int} (h : (bestF n s t k).2.2.2 = true) : netB n = true ∧ (RtOk n (bestF n s t k).1.2 ∧ (bestF n s t k).1.2.length ≤ 100) ∧ (RtOk n (bestF n s t k).2.1.2 ∧ (bestF n s t k).2.1.2.length ≤ 100) := by
  cases hk : okK n s t k
  · rw [bestF_no hk] at h; cases h
  · have hok : okA n s t = true := by unfold okK at hk; simp only [Bool.and_eq_true] at hk; exact hk.1
    have hp := pairB_in (okA_pair hok)
    have hz : RtOk n [] ∧ ([] : List Int).length ≤ 100 := ⟨⟨fun i hi => by simp at hi, by simp⟩, by simp⟩
    have hsm : ∀ i : Nat, RtOk n (((allR n s t)[i]?).getD (0, [])).2 ∧ (((allR n s t)[i]?).getD (0, [])).2.length ≤ 100 := by
      intro i
      cases hi : (allR n s t)[i]? with
      | none => exact hz
      | some R =>
        have hg := good_mem (List.mem_of_getElem? hi)
        obtain ⟨_, _, a3, a4, _⟩ := nodes_at hp.1 hp.2.1 hg.2
        exact ⟨rt_ok hp.1 hp.2.1 hg.2, by simp; omega⟩
    cases h2 : bestP n s t k with
    | none => rw [bestF_none hk h2]; exact ⟨hp.1, hz, hz⟩
    | some x => rw [bestF_some hk h2]; exact ⟨hp.1, hsm _, hsm _⟩
set_option maxHeartbeats 4000000 in
set_option maxRecDepth 20000 in
theorem implPairLength_any (v : Value) (n : Net) (s t k : Int) (w : World) (h : NetIn w v n) :
    Calls Tryz.prog 13 #[v, .int .i64 s, .int .i64 t, .int .i64 k] w fun e w' => e = .returned (.tuple #[.int .i64 (plenF n s t k).1, .bool (plenF n s t k).2]) ∧ Fresh w w' := by
  have HN := Lib.hid h
  obtain ⟨qn, cn, pn, cp, rfl, _, _, n1, _, _, _, _⟩ := h
  obtain ⟨W1, hW1⟩ : ∃ W, W = w.alloc (.cells #[.slice qn n.nodes.length cn, .slice pn n.fibers.length cp] 27) := ⟨_, rfl⟩
  have hf1 : Fresh w W1 := by rw [hW1]; exact fnew (frefl _) _
  have hr1 : RowAt W1 w.heap.size 27 [.slice qn n.nodes.length cn, .slice pn n.fibers.length cp] := by rw [hW1]; exact RowAt.new _ _ _
  have HF1 := Lib.hid hf1
  have HR1 := Lib.hid hr1
  have HW1 := Lib.hid hW1
  have HBP := Lib.hid (implBestPair_any _ n s t k W1 (HN.out.keep hf1))
  have HRT := Lib.hid (bestF_rt (n := n) (s := s) (t := t) (k := k))
  have HNO := Lib.hid (plen_no (n := n) (s := s) (t := t) (k := k))
  have HNN := Lib.hid (plen_none (n := n) (s := s) (t := t) (k := k))
  have HNS := Lib.hid (plen_some (n := n) (s := s) (t := t) (k := k))
  unfold OutBp at HBP
  obtain ⟨B, hB⟩ : ∃ B, B = bestF n s t k := ⟨_, rfl⟩
  rw [← hB] at HBP HRT HNO HNN HNS
  clear hB hf1 hr1 hW1
  obtain ⟨R, S, fo, ok⟩ := B
  simp only at HBP HRT HNO HNN HNS
  go_enter Tryz.func13, Tryz.ntmps13
  go_wp2_with fail
  rw [← HW1.out]
  refine (HBP.out).mono ?_
  rintro e w2 ⟨vA, vB, rfl, ⟨hA, hB, -⟩, hf⟩
  obtain ⟨qA, cA, rfl, oA⟩ := hA
  obtain ⟨qB, cB, rfl, oB⟩ := hB
  obtain ⟨W3, hW3, hsz3, hf3, r1, r2⟩ := two_rows w2 [.int .i64 R.1, .slice qA R.2.length cA] [.int .i64 S.1, .slice qB S.2.length cB] 39 39
  have HW3 := Lib.hid hW3
  have HF := Lib.hid (fstep (fstep HF1.out hf) hf3)
  have HOA := Lib.hid (oA.keep hf3)
  have HOB := Lib.hid (oB.keep hf3)
  have x0 := r1.cell (i := 0) rfl
  have x1 := r1.cell (i := 1) rfl
  have y0 := r2.cell (i := 0) rfl
  have y1 := r2.cell (i := 1) rfl
  have hrn := (HR1.out.keep hf).keep hf3
  have n0 := hrn.cell (i := 0) rfl
  have n1' := hrn.cell (i := 1) rfl
  have HX0 := Lib.hid x0
  have HX1 := Lib.hid x1
  have HY0 := Lib.hid y0
  have HY1 := Lib.hid y1
  have HN0 := Lib.hid n0
  have HN1 := Lib.hid n1'
  clear hf hf3 oA oB r1 r2 hrn hW3 hsz3 x0 x1 y0 y1 n0 n1' HBP
  cases ok
  · have HDEF := Lib.hid (HNO.out rfl)
    go_wp2
    go_ret2
    refine ⟨by rw [HDEF.out]; (first | done | rfl), ?_⟩
    first | exact HF.out | (rw [← HW3.out]; exact HF.out)
  · cases fo
    · have HDEF := Lib.hid (HNN.out rfl rfl)
      go_wp2
      go_ret2
      refine ⟨by rw [HDEF.out]; (first | done | rfl), ?_⟩
      first | exact HF.out | (rw [← HW3.out]; exact HF.out)
    · have HDEF := Lib.hid (HNS.out rfl rfl)
      obtain ⟨hnet, ⟨ok1, ln1⟩, ⟨ok2, ln2⟩⟩ := HRT.out rfl
      have hle := net_len hnet
      have b1 := lenR_bd (n := n) (l := R.2) hle
      have b2 := lenR_bd (n := n) (l := S.2) hle
      have HLZ : Hid (∀ (u : Int × List Int) (q : Option Addr) (c : Nat), (u = R ∧ q = qA ∧ c = cA) ∨ (u = S ∧ q = qB ∧ c = cB) → ∀ xa : After W3, Calls Tryz.prog 32 #[.agg #[.slice qn n.nodes.length cn, .slice pn n.fibers.length cp], .agg #[.int .i64 u.1, .slice q u.2.length c]] xa.w' fun e w' => e = .returned (.int .i64 (lenR n.fibers u.2)) ∧ Fresh xa.w' w') := by
        rintro u q c (⟨rfl, rfl, rfl⟩ | ⟨rfl, rfl, rfl⟩) xa
        · exact (lengthOf_d _ n _ _ _ _ xa.w' (HN.out.keep (fstep HF.out xa.h)) (HOA.out.keep xa.h).ints ok1 hle).mono fun e w' h => ⟨h.1, h.2.1⟩
        · exact (lengthOf_d _ n _ _ _ _ xa.w' (HN.out.keep (fstep HF.out xa.h)) (HOB.out.keep xa.h).ints ok2 hle).mono fun e w' h => ⟨h.1, h.2.1⟩
      have hadd : IntKind.i64.wrap (lenR n.fibers R.2 + lenR n.fibers S.2) = lenR n.fibers R.2 + lenR n.fibers S.2 := by rw [IntKind.wrap_i64]; omega
      have e0 := fun xa : After W3 => akeep HX0.out xa
      have e1 := fun xa : After W3 => akeep HX1.out xa
      have e2 := fun xa : After W3 => akeep HY0.out xa
      have e3 := fun xa : After W3 => akeep HY1.out xa
      have e4 := fun xa : After W3 => akeep HN0.out xa
      have e5 := fun xa : After W3 => akeep HN1.out xa
      clear hnet ok1 ln1 ok2 ln2 hle b1 b2
      go_wp2
      rw [← HW3.out]
      refine wp_region_after (by kernel_rfl) (by kernel_rfl) ?_
      repeat (go_big_quiet_step ((go_at_call 32; exact after_call (HLZ.out _ _ _ (by first | exact Or.inl ⟨rfl, rfl, rfl⟩ | exact Or.inr ⟨rfl, rfl, rfl⟩) _))))
      refine wpQuiet_nil ?_
      rintro _ ⟨xa, rfl⟩
      go_wp2
      go_ret2
      exact ⟨by rw [HDEF.out]; (first | done | rfl), fstep HF.out xa.h⟩
end Go.Proofs.YtlapicgeokjpjaaGreat
