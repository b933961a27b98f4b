/- Contracts: the smallest assignment, the program's side. -/
import Derived.Test.YtmpdljcihiidaaaGreatAx
import Derived.Test.YtmpdljcihiidaaaGreatAg4
import Derived.Laws.EntriesVeiled
namespace Go.Proofs.YtmpdljcihiidaaaGreat
open Go.RowKit Go.PlainAid

theorem five_rows (w : World) (xs ys zz us vs : List Value) (t1 t2 t3 t4 t5 : TypeId) : ∃ W5, W5 = ((((w.alloc (.cells xs.toArray t1)).alloc (.cells ys.toArray t2)).alloc (.cells zz.toArray t3)).alloc (.cells us.toArray t4)).alloc (.cells vs.toArray t5) ∧ W5.heap.size = w.heap.size + 1 + 1 + 1 + 1 + 1 ∧ Fresh w W5 ∧
    RowAt W5 w.heap.size t1 xs ∧ RowAt W5 (w.heap.size + 1) t2 ys ∧ RowAt W5 (w.heap.size + 1 + 1) t3 zz ∧ RowAt W5 (w.heap.size + 1 + 1 + 1) t4 us ∧ RowAt W5 (w.heap.size + 1 + 1 + 1 + 1) t5 vs := by
  obtain ⟨W3, h3, hz3, hf3, a, b, c⟩ := three_rows w xs ys zz t1 t2 t3
  obtain ⟨W5, h5, hz5, hf5, d, e⟩ := two_rows W3 us vs t4 t5
  rw [hz3] at d e hz5
  exact ⟨W5, by rw [h5, h3], hz5, fstep hf3 hf5, a.keep hf5, b.keep hf5, c.keep hf5, d, e⟩
theorem owns_empty {w : World} {g base size : Nat} {E : TypeId} (h : RowAt w g E []) (hb : base ≤ g) : w.ownsRow base E size (.slice (some ⟨g, 0, none⟩) 0 0) 0 [] :=
  ⟨by simp, Or.inr ⟨g, 0, #[], rfl, hb, h, Nat.le_refl _, by simp [maxLen], by simp, by simp⟩⟩
def OutAt (R : Option (List (Int × Int))) (w : World) (e : Ending) (w' : World) : Prop := ∃ q c, e = .returned (.tuple #[.slice q (R.getD []).length c, .bool R.isSome]) ∧ Own w' w.heap.size 71 q (pcs (R.getD [])) ∧ Fresh w w'
set_option maxHeartbeats 4000000 in
set_option maxRecDepth 20000 in
theorem assignedTo_any (p : Option Addr) (cap : Nat) (l : List LQ) (h : Int) (w : World) (hl : Reqs w p l) (hs : ReqsSmall l) (hc : CntOne (l.map LQ.val)) (h7 : l.length ≤ 7) (h0 : 0 ≤ h) (h24 : h ≤ 24) :
    Calls Tryz.prog 63 #[.slice p l.length cap, .int .i64 h] w (OutAt (exS (l.map LQ.val) h l.length []) w) := by
  have hmf : ∀ (fn : Fn) (first cap : Array Value) (w : World), (Instr.makeFunc fn first cap).run Tryz.prog w = .ok (.func fn first cap) w := fun _ _ _ _ => rfl
  obtain ⟨W5, hW5, hsz, hf5, r1, r2, r3, r4, r5⟩ := five_rows w [.slice p l.length cap] [.int .i64 h] [] [.slice (some ⟨w.heap.size + 1 + 1, 0, none⟩) 0 0] [.func (.func 112) #[] #[.pointer (some ⟨w.heap.size + 1 + 1 + 1, 0, none⟩), .pointer (some ⟨w.heap.size, 0, none⟩), .pointer (some ⟨w.heap.size + 1, 0, none⟩), .pointer (some ⟨w.heap.size + 1 + 1 + 1 + 1, 0, none⟩)]] 36 3 71 29 126
  have hst : ExSt w W5 (w.heap.size + 1 + 1 + 1) w.heap.size (w.heap.size + 1) (w.heap.size + 1 + 1 + 1 + 1) p cap l.length h [] :=
    ⟨hf5, ⟨_, 0, r4, owns_empty r3 (by omega)⟩, r1, r2, r5⟩
  have HC := Lib.hid (exClo_any w (w.heap.size + 1 + 1 + 1) w.heap.size (w.heap.size + 1) (w.heap.size + 1 + 1 + 1 + 1) p cap l h hl hs hc h7 h0 h24 (by omega) (by omega) (by omega) (by omega) l.length [] W5 (by simp) AGood.nil hst)
  have HW5 := Lib.hid hW5
  clear hl hs hc hst hW5 hf5 r1 r2 r3 r4 r5 hsz
  obtain ⟨R, hR⟩ : ∃ R, R = exS (l.map LQ.val) h l.length [] := ⟨_, rfl⟩
  rw [← hR] at HC ⊢
  clear hR
  go_enter Tryz.func63, Tryz.ntmps63
  go_wp2_with fail
  rw [← HW5.out]
  refine (HC.out).mono ?_
  rintro e w6 ⟨rfl, hst6, -⟩
  obtain ⟨fr, ⟨q, c, rb, ow⟩, _, _, _⟩ := hst6
  have y0 := rb.cell (i := 0) rfl
  obtain ⟨_, _, hpe, hown, _, _⟩ := owns_cap ow
  cases hpe
  have HO := Lib.hid hown
  have HF := Lib.hid fr
  clear fr rb ow hown HC
  go_wp2
  go_ret2
  exact ⟨q, c, rfl, HO.out, HF.out⟩
set_option maxHeartbeats 4000000 in
set_option maxRecDepth 20000 in
theorem implAssignExact_any (v : Value) (n : Net) (u : Value) (L : List RqT) (w : World) (h : NetIn w v n) (hu : RqIn w u L) :
    Calls Tryz.prog 14 #[v, u] w (OutAg w (axF n L)) := by
  obtain ⟨p, cap, l, rfl, hl, hs, hL⟩ := hu
  have HN := Lib.hid h
  have HL := Lib.hid hl
  have HSM := Lib.hid hs
  have hlen : L.length = l.length := by rw [hL]; simp
  obtain ⟨q, m, c, p', k', d', rfl⟩ := h.shape
  obtain ⟨W1, hW1⟩ : ∃ W1, W1 = w.alloc (.cells #[.slice q m c, .slice p' k' d'] 34) := ⟨_, rfl⟩
  have hf1 : Fresh w W1 := by rw [hW1]; exact fnew (frefl _) _
  have HF1 := Lib.hid hf1
  have HW1 := Lib.hid hW1
  have HOK := Lib.hid (implIsValidRequests_any _ n p cap l W1 (HN.out.keep hf1) (HL.out.keep hf1) hs)
  rw [← hL] at HOK
  have HLV := Lib.hid hL
  have HLEN := Lib.hid hlen
  clear h hl hs hL hf1 hW1 hlen
  cases hok : reqsB n L
  · rw [hok] at HOK
    have HDEF : Hid (axF n L = ([], 0, false)) := by show _ = _; unfold axF; rw [if_neg (by rw [hok]; simp)]
    go_enter Tryz.func14, Tryz.ntmps14
    go_wp2_with fail
    rw [← HW1.out]
    refine (HOK.out).mono ?_
    rintro e w2 ⟨rfl, hf⟩
    have HF := Lib.hid (fstep HF1.out hf)
    clear hf
    go_wp2
    go_ret3
    rw [HDEF.out]
    exact ⟨none, 0, rfl, Or.inl ⟨rfl, rfl⟩, HF.out⟩
  · have hone := reqs_one hok
    have hcs := reqs_cnt hok
    have hbd := bdR_bd hcs.1 (2 ^ l.length)
    have hl7 : l.length ≤ 7 := by rw [← HLEN.out]; exact hone.2
    have HDS : Hid (∀ r, exA L = some r → axF n L = (r.1, r.2, true)) := by intro r hr; unfold axF; rw [if_pos hok, hr]
    have HDN : Hid (exA L = none → axF n L = ([], 0, false)) := by intro hr; unfold axF; rw [if_pos hok, hr]
    have HEX : Hid (exA L = exH L (25 - (bdR L (2 ^ l.length)).1).toNat (bdR L (2 ^ l.length)).1) := by show _ = _; unfold exA; rw [HLEN.out]
    rw [hok] at HOK
    obtain ⟨lo, hlo⟩ : ∃ x, x = (bdR L (2 ^ l.length)).1 := ⟨_, rfl⟩
    rw [← hlo] at HEX hbd
    have HLO := Lib.hid hlo
    have HONE := Lib.hid (show CntOne (l.map LQ.val) by rw [← HLV.out]; exact hone.1)
    have HCS := Lib.hid (show CntSm (l.map LQ.val) by rw [← HLV.out]; exact hcs.1)
    have hlo0 := hbd.1
    have hlo1 : lo ≤ 168 := by have := hbd.2.1; rw [HLEN.out] at this; omega
    clear hok hlo hone hcs hbd
    go_enter Tryz.func14, Tryz.ntmps14
    go_wp2_with fail
    rw [← HW1.out]
    refine (HOK.out).mono ?_
    rintro e w2 ⟨rfl, hf⟩
    have HF := Lib.hid (fstep HF1.out hf)
    clear hf HOK
    go_wp2_with fail
    refine (cliqueBound_any p cap l w2 (HL.out.keep HF.out) HSM.out HCS.out hl7).mono ?_
    rintro e w3 ⟨rfl, hf3⟩
    have HF3 := Lib.hid (fstep HF.out hf3)
    clear hf3
    rw [← HLV.out, ← HLO.out]
    go_wp2
    go_loopw [9] (fun i wr => ∃ hh : Int, lo ≤ hh ∧ (hh ≤ 25 ∨ hh = lo) ∧ i = .int .i64 hh ∧ exA L = exH L (25 - hh).toNat hh ∧ Fresh w wr) (fun i _ => (25 - intOf i).toNat)
    case atStart => exact ⟨lo, Int.le_refl _, Or.inr rfl, rfl, HEX.out, HF3.out⟩
    case round =>
      obtain ⟨hh, hh0, hh1, rfl, hex, hf⟩ := hrel
      have HX := Lib.hid hex
      have HFR := Lib.hid hf
      clear hex
      by_cases hle : hh ≤ 24
      · have HAT := Lib.hid (assignedTo_any p cap l hh wr (HL.out.keep hf) HSM.out HONE.out hl7 (by omega) hle)
        rw [← HLV.out, ← HLEN.out] at HAT
        have hk : (25 - hh).toNat = (24 - hh).toNat + 1 := by omega
        rw [HLEN.out] at HAT
        clear hf
        go_wp2_with fail
        refine (HAT.out).mono ?_
        rintro e w4 ⟨q4, c4, rfl, ho4, hf4⟩
        have HF4 := Lib.hid (fstep HFR.out hf4)
        have HSZ := Lib.hid HFR.out.size
        cases hr : exS L hh l.length [] with
        | some B =>
          rw [hr] at ho4
          have HO4 := Lib.hid ho4
          have HRES : Hid (axF n L = (B, hh, true)) := by
            show _ = _
            exact HDS.out (B, hh) (by rw [HX.out, hk, exH_yes (by rw [HLEN.out]; exact hr)])
          clear ho4 hf4 hr hk
          simp only [Option.isSome_some, Option.getD_some]
          go_wp2
          go_ret3
          rw [HRES.out]
          exact ⟨q4, c4, rfl, HO4.out.mono HSZ.out, HF4.out⟩
        | none =>
          have HRES : Hid (exA L = exH L (25 - (hh + 1)).toNat (hh + 1)) := by
            show _ = _
            rw [HX.out, hk, exH_no (by rw [HLEN.out]; exact hr), show (24 - hh).toNat = (25 - (hh + 1)).toNat by omega]
          have hadd : IntKind.i64.wrap (hh + 1) = hh + 1 := by rw [IntKind.wrap_i64]; omega
          clear ho4 hf4 hr hk
          simp only [Option.isSome_none]
          go_wp2
          go_roundw
          case rel => exact ⟨hh + 1, by omega, Or.inl (by omega), rfl, HRES.out, HF4.out⟩
          case measure => simp [intOf]; omega
      · have HRES : Hid (axF n L = ([], 0, false)) := by
          show _ = _
          exact HDN.out (by rw [HX.out, show (25 - hh).toNat = 0 by omega]; rfl)
        clear hf
        go_wp2
        go_ret3
        rw [HRES.out]
        exact ⟨none, 0, rfl, Or.inl ⟨rfl, rfl⟩, HFR.out⟩
end Go.Proofs.YtmpdljcihiidaaaGreat
