/- Contracts: FiberBound, the program's side. -/
import Derived.Test.YtjlhjkdmpngkbaaFb
import Derived.StillTailTactics
namespace Go.Proofs.Ytjlhjkdmpngkbaa
open Go.RowKit Go.PlainAid

set_option maxHeartbeats 4000000 in
set_option maxRecDepth 100000 in
theorem implFiberBound_any (v : Value) (n : Net) (u : Value) (L : List RqV) (w : World) (h : NetIn w v n) (hu : RqIn w u L) :
    Calls Try.prog 36 #[v, u] w fun e w' => e = .returned (.tuple #[.int .i64 (fiberBoundF n L).1, .int .i64 (fiberBoundF n L).2.1, .bool (fiberBoundF n L).2.2]) ∧ Fresh w w' := by
  obtain ⟨p, cap, l, rfl, hl, hs, hL⟩ := hu
  have HN := Lib.hid h
  have HL := Lib.hid hl
  have HLL := Lib.hid hL
  have hn := hs.1
  have HSM := Lib.hid hs
  clear hs hl hL
  obtain ⟨q, c, p', d', hv, _, _, _, hnf, _⟩ := h
  subst hv
  obtain ⟨W1, hW1⟩ : ∃ W1, W1 = w.alloc (.cells #[.slice q n.nodes.length c, .slice p' n.fibers.length d'] 32) := ⟨_, rfl⟩
  have HF1 : Hid (Fresh w W1) := by show Fresh w W1; rw [hW1]; exact fnew (frefl _) _
  have HR1 : Hid (RowAt W1 w.heap.size 32 [.slice q n.nodes.length c, .slice p' n.fibers.length d']) := by show RowAt W1 _ _ _; rw [hW1]; exact RowAt.new w _ _
  have HW1 := Lib.hid hW1
  clear hW1
  have hmk := mkInts n.fibers.length (by omega)
  go_enter Try.func36, Try.ntmps36
  go_wp2_with fail
  rw [← HW1.out]
  refine (implIsValidRequests_any _ n p cap l _ (HN.out.keep HF1.out) (HL.out.keep HF1.out) HSM.out).mono ?_
  rintro e w1 ⟨rfl, hb⟩
  rw [← HLL.out]
  have HF := Lib.hid (fstep HF1.out hb)
  have b1 := (HR1.out.keep hb).cell (i := 1) rfl
  clear hb
  cases hg : reqsB n L
  · have HE : Hid (fiberBoundF n L = (0, 0, false)) := by show fiberBoundF n L = _; simp [fiberBoundF, hg]
    go_wp2
    go_ret3
    exact ⟨by rw [HE.out]; rfl, HF.out⟩
  · have HE : Hid (fiberBoundF n L = ((fbR L n.fibers.length).1, (fbR L n.fibers.length).2, true)) := by show fiberBoundF n L = _; simp [fiberBoundF, hg]
    have hmem := reqs_mem hg
    have HLAW := Lib.hid (fun hm => fb_law hg hm)
    have HM : Hid (∀ x ∈ L, 0 ≤ x.2 ∧ x.2 ≤ 24) := fun x hx => ⟨by have := (hmem x hx).1; omega, (hmem x hx).1.2⟩
    have HV : Hid (∀ x ∈ L, ∀ i ∈ x.1.2, 0 ≤ i ∧ i < (n.fibers.length : Int)) := fun x hx => (vis_nodup (hmem x hx).2).2
    have HB : Hid (∀ x ∈ L, (0 ≤ x.2 ∧ x.2 ≤ 24) ∧ x.1.2.length ≤ 1048576) := fun x hx => ⟨⟨by have := (hmem x hx).1; omega, (hmem x hx).1.2⟩, by
      rw [HLL.out] at hx
      obtain ⟨y, hy, rfl⟩ := List.mem_map.1 hx
      exact HSM.out.2 y hy⟩
    clear hmem hg
    go_wp2
    go_loopw [23] (fun i wr => ∃ k : Nat, k ≤ l.length ∧ i = .int .i64 k ∧ RowAt wr w1.heap.size 3 ((sumsR n.fibers.length (L.take k)).map iv) ∧ Fresh w1 wr) (fun i _ => l.length - (intOf i).toNat)
    case atStart => exact ⟨0, Nat.zero_le _, rfl, by have := RowAt.new w1 3 (List.replicate n.fibers.length (iv 0)); simpa [sumsR] using this, fnew (frefl _) _⟩
    case round =>
      obtain ⟨wo, rfl⟩ : ∃ wo : World, wo = wr := ⟨_, rfl⟩
      obtain ⟨k, hk, rfl, hrow, hf⟩ := hrel
      have HROW := Lib.hid hrow
      have HFR := Lib.hid hf
      have hg0 := hrow.lt
      clear hrow hf
      by_cases hlt : k < l.length
      · have hltz : (k : Int) < (l.length : Int) := by omega
        obtain ⟨b, off, x, rfl, hx, hm, hi, hc0, hc1, hc2⟩ := (HL.out.keep (fstep HF.out HFR.out)).at hlt
        have hLx : L[k]? = some x.val := by rw [HLL.out]; simp [hx]
        have hmx := List.mem_of_getElem? hLx
        have HST := Lib.hid (sums_step (m := n.fibers.length) hLx)
        have hxc := HM.out _ hmx
        have HXV := Lib.hid (HV.out _ hmx)
        have hsb := sums_bd (m := n.fibers.length) (L := L.take k) (fun x hx => HB.out x (List.mem_of_mem_take hx))
        have hlk : ((L.take k).length : Int) ≤ 1048576 := by simp; omega
        have HTB : Hid (∀ j, ∀ y : Nat, 0 ≤ (tallyR (sumsR n.fibers.length (L.take k)) x.count (x.r.fibs.take j)).getD y 0 ∧ (tallyR (sumsR n.fibers.length (L.take k)) x.count (x.r.fibs.take j)).getD y 0 ≤ 100000000000000) := by
          intro j y
          have := tally_bd (S := sumsR n.fibers.length (L.take k)) (c := x.count) (B := 25165824 * (L.take k).length) (fs := x.r.fibs.take j) hxc (by omega) hsb y
          have h2 := HSM.out.2 x hm
          have h3 : (x.r.fibs.take j).length ≤ x.r.fibs.length := by simp; omega
          omega
        have hx1 : 0 ≤ x.count := hxc.1
        have hx2 : x.count ≤ 24 := hxc.2
        have hsz := HSM.out.2 x hm
        have HI := Lib.hid (HL.out.2 x hm)
        have HSL := Lib.hid (sums_len n.fibers.length (L.take k))
        clear hLx hmx hxc hsb hlk hx hm hi
        obtain ⟨W3, hW3⟩ : ∃ W3, W3 = wo.alloc (.cells #[.int .i64 x.r.start, .slice x.r.q x.r.fibs.length x.r.cap, .int .i64 x.count] 128) := ⟨_, rfl⟩
        have HF3 : Hid (Fresh w1 W3) := by show Fresh w1 W3; rw [hW3]; exact fnew HFR.out _
        have HBX : Hid (RowAt W3 wo.heap.size 128 [.int .i64 x.r.start, .slice x.r.q x.r.fibs.length x.r.cap, .int .i64 x.count]) := by show RowAt W3 _ _ _; rw [hW3]; exact RowAt.new wo _ _
        have HR3 : Hid (RowAt W3 w1.heap.size 3 ((sumsR n.fibers.length (L.take k)).map iv)) := by show RowAt W3 _ _ _; rw [hW3]; exact HROW.out.alloc _
        have HW3 := Lib.hid hW3
        clear hW3
        go_wp2
        rw [← HW3.out]
        go_loopw [31] (fun i wq => ∃ j : Nat, j ≤ x.r.fibs.length ∧ i = .int .i64 j ∧ RowAt wq w1.heap.size 3 ((tallyR (sumsR n.fibers.length (L.take k)) x.count (x.r.fibs.take j)).map iv) ∧ RowAt wq wo.heap.size 128 [.int .i64 x.r.start, .slice x.r.q x.r.fibs.length x.r.cap, .int .i64 x.count] ∧ Fresh w1 wq) (fun i _ => x.r.fibs.length - (intOf i).toNat)
        case atStart => exact ⟨0, Nat.zero_le _, rfl, HR3.out, HBX.out, HF3.out⟩
        case round =>
          obtain ⟨j, hj, rfl, hrow, hbx, hf⟩ := hrel
          have HRQ := Lib.hid hrow
          have HBQ := Lib.hid hbx
          have HFQ := Lib.hid hf
          clear hrow hbx hf
          by_cases hlt2 : j < x.r.fibs.length
          · have hltz2 : (j : Int) < (x.r.fibs.length : Int) := by omega
            obtain ⟨b2, off2, i, hq, hxi, hci⟩ := (HI.out.keep (fstep HF.out HFQ.out)).at hlt2
            rw [hq]
            have HQ := Lib.hid hq
            obtain ⟨g1, g2⟩ := HXV.out i (List.mem_of_getElem? hxi)
            obtain ⟨m, rfl⟩ := Int.eq_ofNat_of_zero_le g1
            have HTS := Lib.hid (tally_step (S := sumsR n.fibers.length (L.take k)) (c := x.count) hxi)
            have htb := HTB.out j m
            obtain ⟨s0, hs0⟩ : ∃ s0, s0 = (tallyR (sumsR n.fibers.length (L.take k)) x.count (x.r.fibs.take j)).getD m 0 := ⟨_, rfl⟩
            have hml : m < n.fibers.length := by omega
            have hcm : wr.cell? ⟨w1.heap.size, m, none⟩ = some (.int .i64 s0) := by
              refine HRQ.out.cell ?_
              have hlen := tally_len (sumsR n.fibers.length (L.take k)) x.count (x.r.fibs.take j)
              rw [HSL.out] at hlen
              rw [hs0, List.getElem?_map, List.getD_eq_getElem?_getD, List.getElem?_eq_getElem (by omega)]; rfl
            have hfz := HRQ.out.frozen m
            have hcc := HBQ.out.cell (i := 2) rfl
            rw [← hs0] at htb
            have HS0 := Lib.hid hs0
            obtain ⟨h1, h2⟩ := htb
            clear hxi hs0 hq
            go_wp2
            go_still_tail 8, (by kernel_rfl)
            change wpList _ _ _ _ _ wr.drew
            have hb := fdrew (frefl wr)
            replace hcm := fkeep hb hcm
            replace hcc := fkeep hb hcc
            have hfz : wr.drew.frozen? ⟨w1.heap.size, m, none⟩ = false := hfz
            replace HRQ := Lib.hid (HRQ.out.keep hb)
            replace HBQ := Lib.hid (HBQ.out.keep hb)
            replace HFQ := Lib.hid (fstep HFQ.out hb)
            clear hb
            generalize wr.drew = wd at hcm hcc hfz HRQ HBQ HFQ
            clear hcc hci
            go_wp2
            go_roundw
            case rel =>
              have hb3 := HBQ.out
              rw [HQ.out] at hb3
              refine ⟨j + 1, by omega, by go_num, ?_, hb3.setOther (b := w1.heap.size) (by omega) _, fset HFQ.out (Nat.le_refl _) _⟩
              have := HRQ.out.set m (iv (s0 + x.count))
              rw [HTS.out, Int.toNat_natCast, ← HS0.out, List.map_set]
              exact this
            case measure => simp [intOf]; omega
          · have hjn : j = x.r.fibs.length := by omega
            have hltz2 : ¬ (j : Int) < (x.r.fibs.length : Int) := by omega
            go_wp2
            go_roundw
            case rel =>
              refine ⟨k + 1, by omega, by go_num, ?_, HFQ.out⟩
              have := HRQ.out
              rw [hjn, List.take_length] at this
              rw [HST.out]; exact this
            case measure => simp [intOf]; omega
      · have hkn : k = l.length := by omega
        have hltz : ¬ (k : Int) < (l.length : Int) := by omega
        have HS : Hid (RowAt wo w1.heap.size 3 ((sumsR n.fibers.length L).map iv)) := by
          have := HROW.out
          rw [List.take_of_length_le (by rw [HLL.out]; simp; omega)] at this
          exact this
        have hlen := sums_len n.fibers.length L
        by_cases hm0 : n.fibers.length = 0
        · have hd : ((n.fibers.length : Int) == 0) = true := by simp [hm0]
          have HE0 : Hid (fbR L n.fibers.length = (0, 0)) := by show _ = _; rw [hm0]; rfl
          clear hlen hm0
          go_wp2
          go_ret3
          exact ⟨by rw [HE.out, HE0.out]; rfl, fstep HF.out HFR.out⟩
        · have hd : ((n.fibers.length : Int) == 0) = false := by simp [hm0]
          have HLW := Lib.hid (HLAW.out (by omega))
          have HIS : Hid (Ints wo (some ⟨w1.heap.size, 0, none⟩) (sumsR n.fibers.length L)) := RowAt.cells HS.out
          have hmx := maxI_any (some ⟨w1.heap.size, 0, none⟩) n.fibers.length (sumsR n.fibers.length L) wo HIS.out (by omega) (by omega)
          have hix := indexI_any (some ⟨w1.heap.size, 0, none⟩) n.fibers.length (sumsR n.fibers.length L) (maxL (sumsR n.fibers.length L)) wo HIS.out (by omega)
          rw [hlen] at hmx hix
          have HMX := Lib.hid hmx
          have HIX := Lib.hid hix
          clear hmx hix hlen hm0
          go_wp2_with fail
          refine HMX.out.mono ?_
          rintro e w2 ⟨rfl, rfl⟩
          go_wp2_with fail
          refine HIX.out.mono ?_
          rintro e w2 ⟨rfl, rfl⟩
          go_wp2
          go_ret3
          exact ⟨by rw [HE.out, HLW.out]; rfl, fstep HF.out HFR.out⟩
end Go.Proofs.Ytjlhjkdmpngkbaa
