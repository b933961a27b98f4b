/- Contracts: the smallest assignment, the reference's side. -/
import Derived.Test.YtmpdljcihiidaaaGreatAx3
namespace Go.Proofs.YtmpdljcihiidaaaGreat
open Go.RowKit Go.PlainAid

set_option maxHeartbeats 4000000 in
set_option maxRecDepth 20000 in
theorem l12Exact_any (p : Option Addr) (cap : Nat) (l : List LQ) (w : World) (n : Net) (hl : Reqs w p l) (hs : ReqsSmall l) (hc : CntOne (l.map LQ.val)) (hcs : CntSm (l.map LQ.val)) (h7 : l.length ≤ 7) (hok : reqsB n (l.map LQ.val) = true) :
    Calls Tryz.prog 57 #[.slice p l.length cap] w (OutAg w (axF n (l.map LQ.val))) := by
  have hmk := mkPrs Tryz.underlying29 infoBlk l.length (by omega)
  have HL := Lib.hid hl
  have HSM := Lib.hid hs
  have HONE := Lib.hid hc
  have HCS := Lib.hid hcs
  have hlen : (l.map LQ.val).length = l.length := by simp
  have HLEN := Lib.hid hlen
  have hbd := bdR_bd hcs (2 ^ l.length)
  have HDS : Hid (∀ r, exA (l.map LQ.val) = some r → axF n (l.map LQ.val) = (r.1, r.2, true)) := by intro r hr; unfold axF; rw [if_pos hok, hr]
  have HDN : Hid (exA (l.map LQ.val) = none → axF n (l.map LQ.val) = ([], 0, false)) := by intro hr; unfold axF; rw [if_pos hok, hr]
  have HEX : Hid (exA (l.map LQ.val) = exH (l.map LQ.val) (25 - (bdR (l.map LQ.val) (2 ^ l.length)).1).toNat (bdR (l.map LQ.val) (2 ^ l.length)).1) := by show _ = _; unfold exA; rw [hlen]
  have HBD := Lib.hid (l12Bound_any p cap l w hl hs hcs h7)
  obtain ⟨lo, hlo⟩ : ∃ x, x = (bdR (l.map LQ.val) (2 ^ l.length)).1 := ⟨_, rfl⟩
  rw [← hlo] at HEX hbd HBD
  have hlo0 := hbd.1
  have hlo1 : lo ≤ 168 := by have := hbd.2.1; rw [hlen] at this; omega
  clear hl hs hc hcs hlo hbd hok hlen
  go_enter Tryz.func57, Tryz.ntmps57
  go_wp2_with fail
  refine (HBD.out).mono ?_
  rintro e w3 ⟨rfl, hf3⟩
  have HF3 := Lib.hid hf3
  clear hf3 HBD
  go_wp2
  go_loopw [7] (fun i wr => ∃ hh : Int, lo ≤ hh ∧ (hh ≤ 25 ∨ hh = lo) ∧ i = .int .i64 hh ∧ exA (l.map LQ.val) = exH (l.map LQ.val) (25 - hh).toNat hh ∧ Fresh w wr) (fun i _ => (25 - intOf i).toNat)
  case atStart => exact ⟨lo, Int.le_refl _, Or.inr rfl, rfl, HEX.out, HF3.out⟩
  case round =>
    obtain ⟨hh, hh0, hh1, rfl, hex, hf⟩ := hrel
    have HX := Lib.hid hex
    have HFR := Lib.hid hf
    clear hex
    by_cases hle : hh ≤ 24
    · obtain ⟨W4, hW4⟩ : ∃ W, W = wr.alloc (.cells (Array.replicate (l.length * 2) (iv 0)) 71) := ⟨_, rfl⟩
      have hf4 : Fresh wr W4 := by rw [hW4]; exact fnew (frefl _) _
      have hr4 : RowAt W4 wr.heap.size 71 (pcs (padZ l.length [])) := by
        rw [hW4]
        have : pcs (padZ l.length []) = List.replicate (l.length * 2) (iv 0) := by unfold padZ; simp [pcs_rep]
        rw [this]
        exact RowAt.new _ _ _
      have hk : (25 - hh).toNat = (24 - hh).toNat + 1 := by omega
      have HE : Hid (Calls Tryz.prog 104 #[.slice p l.length cap, .slice (some ⟨wr.heap.size, 0, none⟩) l.length l.length, .int .i64 0, .int .i64 hh] W4 fun e w' => e = .returned (.bool (exS (l.map LQ.val) hh l.length []).isSome) ∧ Fresh w w' ∧ RowAt w' wr.heap.size 71 (pcs (padZ l.length ((exS (l.map LQ.val) hh l.length []).getD []))) ∧ KpB wr.heap.size W4 w') :=
        l12Ext_any w wr.heap.size p cap l hh HL.out HSM.out HONE.out h7 (by omega) hle HFR.out.size l.length [] W4 (by simp) AGood.nil (fstep hf hf4) hr4
      have HW4 := Lib.hid hW4
      have HSZ := Lib.hid HFR.out.size
      clear hf hf4 hr4 hW4
      go_wp2_with fail
      rw [← HW4.out]
      refine (HE.out).mono ?_
      rintro e w5 ⟨rfl, hf5, hr5, -⟩
      have HF5 := Lib.hid hf5
      cases hr : exS (l.map LQ.val) hh l.length [] with
      | some B =>
        rw [hr] at hr5
        have hbl : B.length = l.length := by have := exS_len hr; simpa using this
        simp only [Option.getD_some] at hr5
        rw [padZ_full (by omega)] at hr5
        have HR5 := Lib.hid hr5
        have HRES : Hid (axF n (l.map LQ.val) = (B, hh, true)) := by
          show _ = _
          exact HDS.out (B, hh) (by rw [HX.out, hk, exH_yes (by rw [HLEN.out]; exact hr)])
        have HBL := Lib.hid hbl
        clear hf5 hr5 hr hk hbl HE
        simp only [Option.isSome_some]
        go_wp2
        go_ret3
        rw [HRES.out]
        exact ⟨some ⟨wr.heap.size, 0, none⟩, l.length, by simp only [HBL.out]; rfl, Or.inr ⟨wr.heap.size, [], rfl, HSZ.out, by rw [List.append_nil]; exact HR5.out⟩, HF5.out⟩
      | none =>
        have HRES : Hid (exA (l.map LQ.val) = exH (l.map LQ.val) (25 - (hh + 1)).toNat (hh + 1)) := by
          show _ = _
          rw [HX.out, hk, exH_no (by rw [HLEN.out]; exact hr), show (24 - hh).toNat = (25 - (hh + 1)).toNat by omega]
        have hadd : IntKind.i64.wrap (hh + 1) = hh + 1 := by rw [IntKind.wrap_i64]; omega
        clear hf5 hr5 hr hk HE
        simp only [Option.isSome_none]
        go_wp2
        go_roundw
        case rel => exact ⟨hh + 1, by omega, Or.inl (by omega), rfl, HRES.out, HF5.out⟩
        case measure => simp [intOf]; omega
    · have HRES : Hid (axF n (l.map LQ.val) = ([], 0, false)) := by
        show _ = _
        exact HDN.out (by rw [HX.out, show (25 - hh).toNat = 0 by omega]; rfl)
      have HSZ := Lib.hid HFR.out.size
      clear hf
      go_wp2
      go_ret3
      rw [HRES.out]
      exact ⟨_, _, rfl, Or.inr ⟨wr.heap.size, [], rfl, HSZ.out, RowAt.new wr _ []⟩, fnew HFR.out _⟩
set_option maxHeartbeats 4000000 in
set_option maxRecDepth 20000 in
theorem specAssignExact_any (v : Value) (n : Net) (u : Value) (L : List RqT) (w : World) (h : NetIn w v n) (hu : RqIn w u L) :
    Calls Tryz.prog 11 #[v, u] w (OutAg w (axF n L)) := by
  obtain ⟨p, cap, l, rfl, hl, hs, hL⟩ := hu
  have HN := Lib.hid h
  have HL := Lib.hid hl
  have HSM := Lib.hid hs
  obtain ⟨q, m, c, p', k', d', rfl⟩ := h.shape
  obtain ⟨W1, hW1⟩ : ∃ W1, W1 = w.alloc (.cells #[.slice q m c, .slice p' k' d'] 34) := ⟨_, rfl⟩
  have hf1 : Fresh w W1 := by rw [hW1]; exact fnew (frefl _) _
  have HF1 := Lib.hid hf1
  have HW1 := Lib.hid hW1
  have HOK := Lib.hid (l12Good_any _ n p cap l W1 (HN.out.keep hf1) (HL.out.keep hf1) hs)
  subst hL
  clear h hl hs hf1 hW1
  cases hok : reqsB n (l.map LQ.val)
  · rw [hok] at HOK
    have HDEF : Hid (axF n (l.map LQ.val) = ([], 0, false)) := by show _ = _; unfold axF; rw [if_neg (by rw [hok]; simp)]
    go_enter Tryz.func11, Tryz.ntmps11
    go_wp2_with fail
    rw [← HW1.out]
    refine (HOK.out).mono ?_
    rintro e w2 ⟨rfl, hf⟩
    have HF := Lib.hid (fstep HF1.out hf)
    clear hf
    go_wp2
    go_ret3
    rw [HDEF.out]
    have HSZ := HF.out.size
    exact ⟨_, _, rfl, Or.inr ⟨w2.heap.size, [], rfl, HSZ, RowAt.new w2 _ []⟩, fnew HF.out _⟩
  · have hone := reqs_one hok
    have hcs := reqs_cnt hok
    have h7 : l.length ≤ 7 := by have := hone.2; simpa using this
    have HB := Lib.hid hok
    have HONE := Lib.hid hone.1
    have HCS := Lib.hid hcs.1
    rw [hok] at HOK
    clear hone hcs hok
    go_enter Tryz.func11, Tryz.ntmps11
    go_wp2_with fail
    rw [← HW1.out]
    refine (HOK.out).mono ?_
    rintro e w2 ⟨rfl, hf⟩
    have HF := Lib.hid (fstep HF1.out hf)
    clear hf
    go_wp2_with fail
    refine (l12Exact_any p cap l w2 n (HL.out.keep HF.out) HSM.out HONE.out HCS.out h7 HB.out).mono ?_
    rintro e w3 ⟨q3, c3, rfl, ho, hf3⟩
    have HO := Lib.hid (ho.mono HF.out.size)
    have HF3 := Lib.hid (fstep HF.out hf3)
    clear ho hf3
    go_wp2
    go_ret3
    exact ⟨q3, c3, rfl, HO.out, HF3.out⟩
end Go.Proofs.YtmpdljcihiidaaaGreat
