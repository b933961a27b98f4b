/- The walk of FnExactIsValidRequests. -/
import Derived.Test.YtjlhjkdmpngkbaaReq4
import Derived.Test.YtjlhjkdmpngkbaaData2
import Derived.Deep.RegionHeld3
import Derived.Deep.DeepCutAuto
namespace Go.Proofs.Ytjlhjkdmpngkbaa
open Go.RowKit Go.PlainAid

theorem small_of_val {l l' : List LQ} (hv : l'.map LQ.val = l.map LQ.val) (hs : ReqsSmall l) : ReqsSmall l' := by
  have hlen : l'.length = l.length := by have := congrArg List.length hv; simpa using this
  refine ⟨by rw [hlen]; exact hs.1, fun x hx => ?_⟩
  have : x.val ∈ l.map LQ.val := by rw [← hv]; exact List.mem_map_of_mem hx
  obtain ⟨y, hy, he⟩ := List.mem_map.1 this
  have := hs.2 y hy
  simp only [LQ.val, LR.val, Prod.mk.injEq] at he
  rw [← he.1.2]; exact this
theorem keep5 {w w' w'' : World} {b o b1 o1 b2 o2 b3 o3 : Nat} {v v1 v2 v3 : Value}
    (h : Fresh w w' ∧ w'.cell? ⟨b, o, none⟩ = some v ∧ w'.cell? ⟨b1, o1, none⟩ = some v1 ∧ w'.cell? ⟨b2, o2, none⟩ = some v2 ∧ w'.cell? ⟨b3, o3, none⟩ = some v3) (hb : Fresh w' w'') :
    Fresh w w'' ∧ w''.cell? ⟨b, o, none⟩ = some v ∧ w''.cell? ⟨b1, o1, none⟩ = some v1 ∧ w''.cell? ⟨b2, o2, none⟩ = some v2 ∧ w''.cell? ⟨b3, o3, none⟩ = some v3 :=
  ⟨fstep h.1 hb, fkeep hb h.2.1, fkeep hb h.2.2.1, fkeep hb h.2.2.2.1, fkeep hb h.2.2.2.2⟩
set_option maxHeartbeats 4000000 in
set_option maxRecDepth 100000 in
theorem law_IsValidRequests (v : Value) (n : Net) (p : Option Addr) (cap : Nat) (l : List LQ) (w : World) (h : NetRaw w v n) (hl : Reqs w p l) (hn : l.length ≤ 9223372036854775807) (hfs : ∀ x ∈ l, x.r.fibs.length ≤ 9223372036854775807) :
    Calls Try.prog 4 #[v, .slice p l.length cap] w fun e w' => e = .returned (.bool true) ∧ Fresh w w' := by
  have HN := Lib.hid h
  have HL := Lib.hid hl
  have HFS := Lib.hid hfs
  clear hfs
  clear hl
  obtain ⟨q, c, p', d', hv, _⟩ := h
  have HV := Lib.hid hv
  subst hv
  have HF := Lib.hid (fnew (frefl w) (.cells #[.slice q n.nodes.length c, .slice p' n.fibers.length d'] 25))
  go_enter Try.func4, Try.ntmps4
  go_wp2_with fail
  refine (szNetwork_any _ n 1048576 _ (NetRaw.keep HN.out HF.out) (by omega) (by omega)).mono ?_
  rintro e w1 ⟨r, rfl, r0, r1, hr, hb⟩
  have a0 := box hb 0 (v := .slice q n.nodes.length c) rfl
  have a1 := box hb 1 (v := .slice p' n.fibers.length d') rfl
  have HF := Lib.hid (fstep HF.out hb)
  have HR := Lib.hid hr
  clear hb hr
  by_cases hneg : r < 0
  · go_wp2
    go_ret
    exact ⟨rfl, HF.out⟩
  have HIN := Lib.hid (NetRaw.small HN.out (HR.out (by omega)))
  go_wp2_with fail
  refine (szRequestS_any p cap l r _ (HL.out.keep HF.out) hn HFS.out (by omega) (by omega)).mono ?_
  rintro e w2 ⟨r2, rfl, r20, r21, hr2, hb⟩
  replace a0 := fkeep hb a0
  replace a1 := fkeep hb a1
  have HF := Lib.hid (fstep HF.out hb)
  have HR2 := Lib.hid hr2
  clear hb hr2
  by_cases hneg2 : r2 < 0
  · go_wp2
    go_ret
    exact ⟨rfl, HF.out⟩
  have HSR := Lib.hid (HR2.out (by omega))
  have HSM := Lib.hid (HR.out (by omega))
  clear HR HR2
  go_wp2_with fail
  refine (toNetwork_any _ n _ (HIN.out.keep HF.out)).mono ?_
  rintro e w3 ⟨v1, rfl, ho1, hb⟩
  replace a0 := fkeep hb a0
  replace a1 := fkeep hb a1
  have HF := Lib.hid (fstep HF.out hb)
  have HO1 := Lib.hid (ho1.net HSM.out)
  clear hb ho1
  go_wp2_with fail
  refine (toRequestS_any p cap l _ (HL.out.keep HF.out) HSR.out).mono ?_
  rintro e w4 ⟨l1, rfl, hlv, hrow, hown, hb⟩
  have HV1 := Lib.hid hlv
  have HOW := Lib.hid hown
  clear hlv hown
  replace a0 := fkeep hb a0
  replace a1 := fkeep hb a1
  have HF := Lib.hid (fstep HF.out hb)
  have HO1 := Lib.hid (HO1.out.keep hb)
  have HRow : Hid (Reqs w4 _ l1) := ⟨RowAt.cells hrow, fun x hx => (HOW.out x hx).cells⟩
  clear hb hrow
  obtain ⟨bb, hbb⟩ : ∃ bb, bb = reqsB n (l.map LQ.val) := ⟨_, rfl⟩
  have HBB := Lib.hid hbb
  clear hbb
  go_wp2_with fail
  have hcc := specIsValidRequests_any v1 n _ l1.length l1 _ HO1.out HRow.out (small_of_val HV1.out HSR.out)
  rw [HV1.out, ← HBB.out] at hcc
  refine hcc.mono ?_
  clear hcc
  rintro e w5 ⟨rfl, hb⟩
  replace a0 := fkeep hb a0
  replace a1 := fkeep hb a1
  have HF := Lib.hid (fstep HF.out hb)
  clear hb HO1 HRow
  go_wp2_with fail
  refine (toNetwork_any _ n _ (HIN.out.keep HF.out)).mono ?_
  rintro e w6 ⟨v2, rfl, ho2, hb⟩
  replace a0 := fkeep hb a0
  replace a1 := fkeep hb a1
  have HF := Lib.hid (fstep HF.out hb)
  have HO2 := Lib.hid (ho2.net HSM.out)
  clear hb ho2
  obtain ⟨q2, c2, p2, d2, hv2, _⟩ := HO2.out
  subst hv2
  obtain ⟨wx, hwx⟩ : ∃ wx, wx = w6.alloc (.cells #[.slice q2 n.nodes.length c2, .slice p2 n.fibers.length d2] 32) := ⟨_, rfl⟩
  have hnx : Fresh w6 wx := by rw [hwx]; exact fnew (frefl w6) _
  have b0 : wx.cell? ⟨w6.heap.size, 0, none⟩ = some (.slice q2 n.nodes.length c2) := by rw [hwx]; exact (RowAt.new w6 32 [.slice q2 n.nodes.length c2, .slice p2 n.fibers.length d2]).cell (i := 0) rfl
  have b1 : wx.cell? ⟨w6.heap.size, 1, none⟩ = some (.slice p2 n.fibers.length d2) := by rw [hwx]; exact (RowAt.new w6 32 [.slice q2 n.nodes.length c2, .slice p2 n.fibers.length d2]).cell (i := 1) rfl
  have HF6 := HF
  have HF := Lib.hid (fstep HF.out hnx)
  have HO2 := Lib.hid (HO2.out.keep hnx)
  replace a0 := fkeep hnx a0
  replace a1 := fkeep hnx a1
  clear hnx
  have HB0 := Lib.hid b0
  have HB1 := Lib.hid b1
  have HA0 := Lib.hid a0
  have HA1 := Lib.hid a1
  have HWX := Lib.hid hwx
  clear b0 b1 a0 a1 hwx
  go_wp2_with fail
  rw [← HWX.out]
  clear HWX
  refine (toRequestS_any p cap l _ (HL.out.keep HF.out) HSR.out).mono ?_
  rintro e w7 ⟨l2, rfl, hlv, hrow, hown, hb⟩
  have HV2 := Lib.hid hlv
  have HOW := Lib.hid hown
  clear hlv hown
  have a0 := fkeep hb HA0.out
  have a1 := fkeep hb HA1.out
  have b0 := fkeep hb HB0.out
  have b1 := fkeep hb HB1.out
  have HF := Lib.hid (fstep HF.out hb)
  have HO2 := Lib.hid (HO2.out.keep hb)
  have HRow : Hid (Reqs w7 _ l2) := ⟨RowAt.cells hrow, fun x hx => (HOW.out x hx).cells⟩
  clear hb hrow HA0 HA1 HB0 HB1 HF6
  go_wp2_with fail
  have hcc := implIsValidRequests_any _ n _ l2.length l2 _ HO2.out HRow.out (small_of_val HV2.out HSR.out)
  rw [HV2.out, ← HBB.out] at hcc
  refine hcc.mono ?_
  clear hcc
  rintro e w8 ⟨rfl, hb⟩
  replace a0 := fkeep hb a0
  replace a1 := fkeep hb a1
  replace b0 := fkeep hb b0
  replace b1 := fkeep hb b1
  have HF := Lib.hid (fstep HF.out hb)
  have HO2 := Lib.hid (HO2.out.keep hb)
  have HRow := Lib.hid (Reqs.keep HRow.out hb)
  clear hb
  go_wp2
  have HS : Fresh w8 w8 ∧ w8.cell? ⟨w6.heap.size, 0, none⟩ = some (.slice q2 n.nodes.length c2) ∧ w8.cell? ⟨w6.heap.size, 1, none⟩ = some (.slice p2 n.fibers.length d2) ∧ w8.cell? ⟨w.heap.size, 0, none⟩ = some (.slice q n.nodes.length c) ∧ w8.cell? ⟨w.heap.size, 1, none⟩ = some (.slice p' n.fibers.length d') := ⟨frefl _, b0, b1, a0, a1⟩
  go_region_held3 (fun w' => Fresh w8 w' ∧ w'.cell? ⟨w6.heap.size, 0, none⟩ = some (.slice q2 n.nodes.length c2) ∧ w'.cell? ⟨w6.heap.size, 1, none⟩ = some (.slice p2 n.fibers.length d2) ∧ w'.cell? ⟨w.heap.size, 0, none⟩ = some (.slice q n.nodes.length c) ∧ w'.cell? ⟨w.heap.size, 1, none⟩ = some (.slice p' n.fibers.length d'))
    (first | assumption | exact keep5 (by assumption) (by assumption) | exact keep5 (by assumption) (fdrew (frefl _)) | exact keep5 (by assumption) (frefl _))
    (first | (go_at_call 18; refine (toNetwork_any _ n _ (HIN.out.keep (fstep HF.out (And.left (by assumption))))).mono ?_; rintro e w10 ⟨v3, rfl, ho3, hb10⟩; have HO3 := Lib.hid (ho3.net HSM.out); clear ho3) | (go_at_call 21; refine (eqNetwork_same _ _ n _ (HO2.out.keep (And.left (by assumption))) HO3.out).mono ?_; rintro e w11 ⟨rfl, hb11⟩))
  have hb : Fresh w8 w11 := fstep (fstep (fdrew (frefl _)) hb10) hb11
  clear hb10 hb11 HS b0 b1
  replace a0 := fkeep hb a0
  replace a1 := fkeep hb a1
  have HF := Lib.hid (fstep HF.out hb)
  have HRow := Lib.hid (Reqs.keep HRow.out hb)
  clear hb HO2 HO3
  go_wp2_with fail
  refine (toRequestS_any p cap l _ (HL.out.keep HF.out) HSR.out).mono ?_
  rintro e w12 ⟨l3, rfl, hlv, hrow, hown, hb⟩
  have HV3 := Lib.hid hlv
  have HOW := Lib.hid hown
  clear hlv hown
  have HF := Lib.hid (fstep HF.out hb)
  have HRow := Lib.hid (Reqs.keep HRow.out hb)
  have HRow2 : Hid (Reqs w12 _ l3) := ⟨RowAt.cells hrow, fun x hx => (HOW.out x hx).cells⟩
  clear hb hrow a0 a1
  go_wp2_with fail
  refine (eqRequestS_same _ _ _ _ l2 l3 _ (by rw [HV3.out, HV2.out]) HRow.out HRow2.out (small_of_val HV2.out HSR.out)).mono ?_
  rintro e w13 ⟨rfl, hb⟩
  have HF := Lib.hid (fstep HF.out hb)
  clear hb
  go_wp2
  go_ret
  exact ⟨rfl, HF.out⟩
end Go.Proofs.Ytjlhjkdmpngkbaa
