/- Contracts: GreedyOrder on both sides. -/
import Derived.Test.YtmpdljcihiidaaaGreatGo2
namespace Go.Proofs.YtmpdljcihiidaaaGreat
open Go.RowKit Go.PlainAid

def OutGo (w : World) (r : List Int × Bool) (e : Ending) (w' : World) : Prop := ∃ p c, e = .returned (.tuple #[.slice p r.1.length c, .bool r.2]) ∧ Own w' w.heap.size 3 p (r.1.map iv) ∧ Fresh w w'
theorem axF_yes {n : Net} {L : List RqT} {r : List (Int × Int) × Int} (h : reqsB n L = true) (h2 : exA L = some r) : axF n L = (r.1, r.2, true) := by unfold axF; rw [if_pos h, h2]
theorem axF_ex {n : Net} {L : List RqT} (h : reqsB n L = true) (h2 : exA L = none) : axF n L = ([], 0, false) := by unfold axF; rw [if_pos h, h2]
theorem axF_bad {n : Net} {L : List RqT} (h : reqsB n L = false) : axF n L = ([], 0, false) := by unfold axF; rw [if_neg (by rw [h]; simp)]
set_option maxHeartbeats 4000000 in
set_option maxRecDepth 20000 in
theorem implGreedyOrder_any (v : Value) (n : Net) (u : Value) (L : List RqT) (w : World) (h : NetIn w v n) (hu : RqIn w u L) :
    Calls Tryz.prog 30 #[v, u] w (OutGo w (goF n L)) := by
  have hmf : ∀ (fn : Fn) (first cap : Array Value) (w : World), (Instr.makeFunc fn first cap).run Tryz.prog w = .ok (.func fn first cap) w := fun _ _ _ _ => rfl
  have HU := Lib.hid hu
  obtain ⟨p, cap, l, rfl, hl, hs, hL⟩ := hu
  have HN := Lib.hid h
  have HL := Lib.hid hl
  have HSM := Lib.hid hs
  have hlen : L.length = l.length := by rw [hL]; simp
  obtain ⟨q, m, c, p', k', d', rfl⟩ := h.shape
  obtain ⟨W2, hW2, hsz2, hf2, r1, r2⟩ := two_rows w [.slice q m c, .slice p' k' d'] [.slice p l.length cap] 34 36
  have HF2 := Lib.hid hf2
  have HW2 := Lib.hid hW2
  have HR2 := Lib.hid r2
  have HS2 := Lib.hid hsz2
  have HAX := Lib.hid (implAssignExact_any _ n _ L W2 (HN.out.keep hf2) (HU.out.keep hf2))
  have HLV := Lib.hid hL
  have HLEN := Lib.hid hlen
  clear h hl hs hL hf2 hW2 hlen r1 r2 hsz2
  cases hok : reqsB n L
  · have HDEF := Lib.hid (goF_no hok)
    unfold OutAg at HAX
    rw [axF_bad hok] at HAX
    clear hok
    go_enter Tryz.func30, Tryz.ntmps30
    go_wp2_with fail
    rw [← HW2.out]
    refine (HAX.out).mono ?_
    rintro e w3 ⟨p3, c3, rfl, _, hf⟩
    have HF := Lib.hid (fnew (fstep HF2.out hf) (.cells #[.int .i64 0] 3))
    clear hf
    go_wp2
    go_ret2
    rw [HDEF.out]
    exact ⟨none, 0, rfl, Or.inl ⟨rfl, rfl⟩, HF.out⟩
  · have HOK := Lib.hid hok
    cases hex : exA L with
    | none =>
      have HDEF := Lib.hid (goF_ex hok hex)
      unfold OutAg at HAX
      rw [axF_ex hok hex] at HAX
      clear hok hex
      go_enter Tryz.func30, Tryz.ntmps30
      go_wp2_with fail
      rw [← HW2.out]
      refine (HAX.out).mono ?_
      rintro e w3 ⟨p3, c3, rfl, _, hf⟩
      have HF := Lib.hid (fnew (fstep HF2.out hf) (.cells #[.int .i64 0] 3))
      clear hf
      go_wp2
      go_ret2
      rw [HDEF.out]
      exact ⟨none, 0, rfl, Or.inl ⟨rfl, rfl⟩, HF.out⟩
    | some r =>
      have HEX := Lib.hid hex
      unfold OutAg at HAX
      rw [axF_yes hok hex] at HAX
      have hone := reqs_one hok
      have HONE := Lib.hid (show CntOne (l.map LQ.val) by rw [← HLV.out]; exact hone.1)
      have hl7 : l.length ≤ 7 := by rw [← HLEN.out]; exact hone.2
      obtain ⟨B, hh⟩ := r
      simp only at HAX
      clear hok hex hone
      go_enter Tryz.func30, Tryz.ntmps30
      go_wp2_with fail
      rw [← HW2.out]
      refine (HAX.out).mono ?_
      rintro e w3 ⟨p3, c3, rfl, _, hf⟩
      obtain ⟨W4, hW4⟩ : ∃ W, W = w3.alloc (.cells #[.int .i64 hh] 3) := ⟨_, rfl⟩
      have hf4 : Fresh w3 W4 := by rw [hW4]; exact fnew (frefl _) _
      have hr4 : RowAt W4 w3.heap.size 3 [.int .i64 hh] := by rw [hW4]; exact RowAt.new _ _ _
      have hz4 : W4.heap.size = w3.heap.size + 1 := by rw [hW4]; simp
      obtain ⟨W7, hW7, hsz7, hf7, b1, b2, b3⟩ := three_rows W4 [] [.slice (some ⟨W4.heap.size, 0, none⟩) 0 0] [.func (.func 82) #[] #[.pointer (some ⟨w3.heap.size + 1 + 1, 0, none⟩), .pointer (some ⟨w.heap.size + 1, 0, none⟩), .pointer (some ⟨w3.heap.size, 0, none⟩), .pointer (some ⟨w3.heap.size + 1 + 1 + 1, 0, none⟩)]] 3 58 126
      have hF4 : Fresh w W4 := fstep (fstep HF2.out hf) hf4
      have hst : GoSt W4 W7 (w3.heap.size + 1 + 1) (w.heap.size + 1) w3.heap.size (w3.heap.size + 1 + 1 + 1) p cap l.length hh [] := by
        refine ⟨hf7, ⟨some ⟨W4.heap.size, 0, none⟩, 0, ?_, owns_empty b1 (Nat.le_refl _)⟩, ((HR2.out.keep hf).keep hf4).keep hf7, hr4.keep hf7, ?_⟩
        · rw [← hz4]; exact b2
        · rw [hz4] at b3; exact b3
      have hsw := hf.size
      have hs2 := HS2.out
      have HC := Lib.hid (goClo_any W4 (w3.heap.size + 1 + 1) (w.heap.size + 1) w3.heap.size (w3.heap.size + 1 + 1 + 1) p cap l hh (HL.out.keep hF4) HSM.out HONE.out hl7 (by omega) (by omega) (by omega) (by omega) (by omega) l.length [] W7 (by simp) (PreOk.nil _) hst)
      have HW7 : Hid (W7 = (((w3.alloc (.cells #[.int .i64 hh] 3)).alloc (.cells #[] 3)).alloc (.cells #[.slice (some ⟨w3.heap.size + 1, 0, none⟩) 0 0] 58)).alloc (.cells #[.func (.func 82) #[] #[.pointer (some ⟨w3.heap.size + 1 + 1, 0, none⟩), .pointer (some ⟨w.heap.size + 1, 0, none⟩), .pointer (some ⟨w3.heap.size, 0, none⟩), .pointer (some ⟨w3.heap.size + 1 + 1 + 1, 0, none⟩)]] 126)) := by
        show _ = _
        rw [hW7, hz4, hW4]
      have HF4 := Lib.hid hF4
      have HSZ4 := Lib.hid hF4.size
      clear hst hW7 hf7 b1 b2 b3 hsz7 hW4 hf4 hr4 hz4 hF4 hf hsw hs2 HAX
      have HLL : Hid (l.map LQ.val = L ∧ l.length = L.length) := And.intro HLV.out.symm HLEN.out.symm
      rw [HLL.out.1, HLL.out.2] at HC
      obtain ⟨R, hR⟩ : ∃ R, R = goS L hh L.length [] := ⟨_, rfl⟩
      rw [← hR] at HC
      have HR := Lib.hid hR
      clear hR
      go_wp2_with fail
      rw [← HW7.out]
      refine (HC.out).mono ?_
      rintro e w8 ⟨rfl, hst8⟩
      obtain ⟨fr, ⟨q8, c8, rb, ow⟩, _, _, _⟩ := hst8
      have y0 := rb.cell (i := 0) rfl
      obtain ⟨_, _, hpe, hown, _, _⟩ := owns_cap ow
      cases hpe
      have HO := Lib.hid hown
      have HF := Lib.hid (fstep HF4.out fr)
      clear fr rb ow hown HC
      cases R with
      | none =>
        have HDEF := Lib.hid (goF_out HOK.out HEX.out HR.out.symm)
        simp only [Option.getD_none, Option.isSome_none] at *
        go_wp2
        go_ret2
        rw [HDEF.out]
        exact ⟨q8, c8, rfl, HO.out.mono HSZ4.out, HF.out⟩
      | some o =>
        have HDEF := Lib.hid (goF_yes HOK.out HEX.out HR.out.symm)
        simp only [Option.getD_some, Option.isSome_some] at *
        go_wp2
        go_ret2
        rw [HDEF.out]
        exact ⟨q8, c8, rfl, HO.out.mono HSZ4.out, HF.out⟩
end Go.Proofs.YtmpdljcihiidaaaGreat
