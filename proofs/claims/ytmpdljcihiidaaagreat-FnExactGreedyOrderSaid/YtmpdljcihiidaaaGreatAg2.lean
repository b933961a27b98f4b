/- Contracts: assignment by an order, the reference's side: the walk over the order. -/
import Derived.Test.YtmpdljcihiidaaaGreatAg
import Derived.Test.YtmpdljcihiidaaaGreatHg
namespace Go.Proofs.YtmpdljcihiidaaaGreat
open Go.RowKit Go.PlainAid

def CntOne (L : List RqT) : Prop := ∀ x ∈ L, 1 ≤ x.2 ∧ x.2 ≤ 24
def agR (L : List RqT) (order : List Int) : List (Int × Int) × Int × Bool := match gTo L order order.length with | some B => (B, heightTo B, true) | none => ([], 0, false)
def OutAg (w : World) (r : List (Int × Int) × Int × Bool) (e : Ending) (w' : World) : Prop := ∃ p c, e = .returned (.tuple #[.slice p r.1.length c, .int .i64 r.2.1, .bool r.2.2]) ∧ Own w' w.heap.size 71 p (pcs r.1) ∧ Fresh w w'
theorem agR_none {L : List RqT} {order : List Int} {k : Nat} (hk : k ≤ order.length) (h : gTo L order k = none) : agR L order = ([], 0, false) := by unfold agR; rw [gTo_none h _ hk]
theorem fits_good {m c f : Int} (h1 : 1 ≤ c) (h2 : c ≤ 24) (h : (fits m c).head? = some f) : goodB f c = true := by
  have hm : f ∈ fits m c := List.mem_of_head? h
  unfold fits fitsTo at hm
  obtain ⟨h3, _⟩ := List.mem_filter.1 hm
  obtain ⟨k, hk, rfl⟩ := List.mem_map.1 h3
  have := List.mem_range.1 hk
  rw [goodB_iff]
  simp only [Int.ofNat_eq_natCast]
  omega
theorem bgood_set {B : List (Int × Int)} (h : BGood B) (i : Nat) {b : Int × Int} (hb : goodB b.1 b.2 = true) : BGood (B.set i b) := by
  intro x hx h0
  rcases List.mem_or_eq_of_mem_set hx with hx | rfl
  · exact h x hx h0
  · exact hb
theorem bgood_rep (n : Nat) : BGood (List.replicate n (0, 0)) := by
  intro x hx h0
  rw [List.eq_of_mem_replicate hx] at h0
  simp at h0
theorem bsm_set {B : List (Int × Int)} (h : BSm B) (i : Nat) {b : Int × Int} (hb : goodB b.1 b.2 = true) : BSm (B.set i b) := by
  intro x hx
  rcases List.mem_or_eq_of_mem_set hx with hx | rfl
  · exact h x hx
  · have := goodB_iff.1 hb; omega
theorem bsm_rep (n : Nat) : BSm (List.replicate n (0, 0)) := by
  intro x hx
  rw [List.eq_of_mem_replicate hx]
  simp
theorem pcs_set (B : List (Int × Int)) (i : Nat) (x y : Int) : ((pcs B).set (i * 2) (iv x)).set (i * 2 + 1) (iv y) = pcs (B.set i (x, y)) := by
  induction B generalizing i with
  | nil => simp [pcs]
  | cons b B ih =>
    cases i with
    | zero => rw [List.set_cons_zero, pcs_cons, pcs_cons]; rfl
    | succ i =>
      rw [List.set_cons_succ, pcs_cons, pcs_cons, ← ih i]
      have e1 : (i + 1) * 2 = i * 2 + 1 + 1 := by omega
      rw [e1]
      rfl
theorem pcs_rep (n : Nat) : pcs (List.replicate n (0, 0)) = List.replicate (n * 2) (iv 0) := by
  induction n with
  | zero => rfl
  | succ n ih => rw [List.replicate_succ, pcs_cons, ih, Nat.add_mul]; rfl

set_option maxHeartbeats 4000000 in
set_option maxRecDepth 100000 in
theorem l12Greedy_any (p q : Option Addr) (cap cq : Nat) (l : List LQ) (order : List Int) (w : World) (hl : Reqs w p l) (hs : ReqsSmall l) (hc : CntOne (l.map LQ.val)) (h7 : l.length ≤ 7) (hI : Ints w q order) (hn : order.length ≤ 1048576)
    (ho : ∀ i ∈ order, 0 ≤ i ∧ i < (l.length : Int)) :
    Calls Tryz.prog 122 #[.slice p l.length cap, .slice q order.length cq] w (OutAg w (agR (l.map LQ.val) order)) := by
  have hmk := mkPrs Tryz.underlying29 infoBlk l.length (by omega)
  have hlen : (l.map LQ.val).length = l.length := by simp
  have HLEN := Lib.hid hlen
  have HL := Lib.hid hl
  have HSM := Lib.hid hs
  have HC := Lib.hid hc
  have HI := Lib.hid hI
  have HO := Lib.hid ho
  clear hl hs hc hI ho hlen
  go_enter Tryz.func122, Tryz.ntmps122
  go_wp2
  go_loopw [8] (fun j wr => ∃ (k : Nat) (B : List (Int × Int)), k ≤ order.length ∧ j = .int .i64 k ∧ gTo (l.map LQ.val) order k = some B ∧ B.length = l.length ∧ BGood B ∧ BSm B ∧ RowAt wr w.heap.size 71 (pcs B) ∧ Fresh w wr) (fun j _ => order.length - (intOf j).toNat)
  case atStart => exact ⟨0, List.replicate l.length (0, 0), Nat.zero_le _, rfl, by unfold gTo; rw [HLEN.out]; rfl, by simp, bgood_rep _, bsm_rep _, by rw [pcs_rep]; exact RowAt.new w _ _, fnew (frefl _) _⟩
  case round =>
    obtain ⟨k, B, hk, rfl, hg, hbl, hbg, hbs, hrow, hf⟩ := hrel
    have HBS := Lib.hid hbs
    clear hbs
    have HG := Lib.hid hg
    have HBL := Lib.hid hbl
    have HBG := Lib.hid hbg
    have HROW := Lib.hid hrow
    have HF := Lib.hid hf
    have hw0 := hrow.lt
    clear hg hbl hbg hrow hf
    by_cases hlt : k < order.length
    · have hltz : (k : Int) < (order.length : Int) := by omega
      obtain ⟨b, off, i0, rfl, hx, hc0⟩ := (HI.out.keep HF.out).at hlt
      obtain ⟨hi0, hi1⟩ := HO.out i0 (List.mem_of_getElem? hx)
      obtain ⟨i, rfl⟩ : ∃ i : Nat, i0 = (i : Int) := ⟨i0.toNat, by omega⟩
      have hil : i < l.length := by omega
      have HST := Lib.hid (gTo_succ (L := l.map LQ.val) hx)
      obtain ⟨b1, o1, x, hp1, hy, hym, hyi, c10, c11, c12⟩ := (HL.out.keep HF.out).at hil
      subst hp1
      have hcnt := HC.out x.val (List.mem_map_of_mem hym)
      simp only [LQ.val] at hcnt
      have HCE := Lib.hid (cntOf_of (rq_at hy))
      have j2 := fun xa : After wr => akeep c12 xa
      obtain ⟨T, hT⟩ : ∃ T, T = takenTo (l.map LQ.val) B i l.length := ⟨_, rfl⟩
      have HTK : Hid (∀ xa : After wr, Calls Tryz.prog 146 #[.slice (some ⟨b1, o1, none⟩) l.length cap, .slice (some ⟨w.heap.size, 0, none⟩) l.length l.length, .int .i64 (i : Int)] xa.w' fun e w' => e = .returned (.int .i64 (T : Int)) ∧ Fresh xa.w' w') := by
        intro xa
        have := l12Taken_any (some ⟨b1, o1, none⟩) (some ⟨w.heap.size, 0, none⟩) cap l.length l B i xa.w' (HL.out.keep (fstep HF.out xa.h)) HSM.out (HROW.out.keep xa.h).cells HBG.out (by rw [HBL.out]; exact Nat.le_refl _) hil (by rw [HBL.out]; omega)
        rw [HBL.out, ← hT] at this
        exact this
      have hgs : gStep (l.map LQ.val) B i = ((fits (T : Int) x.count).head?).map fun f => B.set i (f, x.count) := by
        unfold gStep; rw [HLEN.out, ← hT, HCE.out]; try rfl
      have HGS : Hid (gTo (l.map LQ.val) order (k + 1) = ((fits (T : Int) x.count).head?).map fun f => B.set i (f, x.count)) := by
        show _ = _; rw [HST.out, HG.out, ← hgs]; try rfl
      have HFT : Hid (∀ w', Calls Tryz.prog 145 #[.int .i64 (T : Int), .int .i64 x.count] w' (OutInts w' (fits (T : Int) x.count))) := fun w' => l8Fits_any (T : Int) x.count w' hcnt.1 hcnt.2
      obtain ⟨FS, hFS⟩ : ∃ FS, FS = fits (T : Int) x.count := ⟨_, rfl⟩
      have hfl : FS.length ≤ 24 := by
        rw [hFS]; unfold fits
        exact Nat.le_trans (fitsTo_len _ _ _) (by omega)
      have HFG : Hid (∀ f, FS.head? = some f → goodB f x.count = true) := fun f hf => fits_good hcnt.1 hcnt.2 (by rw [← hFS]; exact hf)
      rw [← hFS] at HGS HFT
      have hiz : (i : Int) < (l.length : Int) := by omega
      clear hT hgs hFS hx hi0 hi1 hy hym hyi c10 c11
      go_wp2
      refine wp_region_after_tail 9 (by kernel_rfl) (by kernel_rfl) ?_
      simp only [List.take_succ_cons, List.take_zero, List.drop_succ_cons, List.drop_zero]
      repeat (go_big_quiet_step ((go_at_call 146; exact after_call (HTK.out _))))
      refine wpQuiet_nil ?_
      intro xa
      go_wp2_with fail
      refine (HFT.out _).mono ?_
      rintro e w2 ⟨pf, cf, rfl, hof, hb2⟩
      have HF2 := Lib.hid (fstep (fstep HF.out xa.h) hb2)
      have HROW2 := Lib.hid ((HROW.out.keep xa.h).keep hb2)
      have HOF := Lib.hid hof
      have d12 := fkeep hb2 (j2 xa)
      clear hb2 hof j2 c12 hc0
      rcases FS with _ | ⟨f, FS⟩
      · have HE : Hid (agR (l.map LQ.val) order = ([], 0, false)) := agR_none (k := k + 1) (by omega) (by rw [HGS.out]; rfl)
        have HZ2 := Lib.hid HF2.out.size
        go_wp2
        go_ret3
        rw [HE.out]
        exact ⟨_, _, rfl, Or.inr ⟨w2.heap.size, [], rfl, HZ2.out, RowAt.new w2 _ []⟩, fnew HF2.out _⟩
      · have hgd : goodB f x.count = true := HFG.out f rfl
        have HGD := Lib.hid hgd
        obtain ⟨bf, of, hpf, hfc⟩ := HOF.out.ints.at0
        subst hpf
        obtain ⟨bi, hBi⟩ : ∃ b, B[i]? = some b := ⟨_, List.getElem?_eq_getElem (by rw [HBL.out]; exact hil)⟩
        obtain ⟨e0, e1⟩ := pcs_get hBi
        have hr0 := HROW2.out.cell e0
        have hr1 := HROW2.out.cell e1
        have hf0 := HROW2.out.frozen (i * 2)
        have hf1 := HROW2.out.frozen (i * 2 + 1)
        have HGS2 : Hid (gTo (l.map LQ.val) order (k + 1) = some (B.set i (f, x.count))) := by show _ = _; rw [HGS.out]; rfl
        clear hgd hBi e0 e1 HGS
        go_wp2
        go_region
        go_wp2
        go_roundw
        case rel =>
          refine ⟨k + 1, B.set i (f, x.count), by omega, by go_num, HGS2.out, by rw [List.length_set]; exact HBL.out, bgood_set HBG.out i HGD.out, bsm_set HBS.out i HGD.out, ?_, ?_⟩
          · rw [← pcs_set]; exact (HROW2.out.set (i * 2) (iv f)).set (i * 2 + 1) (iv x.count)
          · exact fset (fset (fdrew HF2.out) (Nat.le_refl _) _) (Nat.le_refl _) _
        case measure => simp [intOf]; omega
    · have hkn : k = order.length := by omega
      subst hkn
      have HE : Hid (agR (l.map LQ.val) order = (B, heightTo B, true)) := by show _ = _; unfold agR; rw [HG.out]
      have HHT : Hid (∀ w', Fresh wr w' → Calls Tryz.prog 157 #[.slice (some ⟨w.heap.size, 0, none⟩) l.length l.length] w' fun e w2 => e = .returned (.int .i64 (heightTo B)) ∧ Fresh w' w2) := by
        intro w' hf'
        have := l12Height_w (some ⟨w.heap.size, 0, none⟩) l.length B w' (HROW.out.keep hf').cells HBS.out (by rw [HBL.out]; omega)
        rw [HBL.out] at this
        exact this
      go_wp2_with fail
      refine (HHT.out _ (frefl _)).mono ?_
      rintro e w2 ⟨rfl, hb2⟩
      have HF2 := Lib.hid (fstep HF.out hb2)
      have HROW2 := Lib.hid (HROW.out.keep hb2)
      clear hb2
      go_wp2
      go_ret3
      rw [HE.out]
      exact ⟨some ⟨w.heap.size, 0, none⟩, l.length, by simp only [HBL.out]; rfl, Or.inr ⟨w.heap.size, [], rfl, Nat.le_refl _, by rw [List.append_nil]; exact HROW2.out⟩, HF2.out⟩
end Go.Proofs.YtmpdljcihiidaaaGreat
