/- Contracts: two lists of fibers of which no two fail with each other, both sides. -/
import Derived.Test.YtlapicgeokjpjaaGr2
import Derived.Deep.RegionHeld3
namespace Go.Proofs.Ytlapicgeokjpjaa
open Go.RowKit Go.PlainAid

set_option maxHeartbeats 1000000 in
set_option maxRecDepth 100000 in
theorem risksOf_any (v : Value) (n : Net) (p : Option Addr) (cap : Nat) (a : List Int) (w : World) (h : NetIn w v n) (h14 : n.fibers.length ≤ 14) (ha : Ints w p a) (na : a.length ≤ 1048576) :
    Calls Try.prog 25 #[v, .slice p a.length cap] w (OutInts w (a.map (gIdx n.fibers))) := by
  have HN := Lib.hid h
  obtain ⟨q, m, c, p', k', d, hv⟩ := h.shape
  subst hv
  clear h
  obtain ⟨W1, hW1⟩ : ∃ W1, W1 = w.alloc (.cells #[.slice q m c, .slice p' k' d] 27) := ⟨_, rfl⟩
  have hf1 : Fresh w W1 := by rw [hW1]; exact fnew (frefl _) _
  have HR1 : Hid (RowAt W1 w.heap.size 27 [.slice q m c, .slice p' k' d]) := by show RowAt _ _ _ _; rw [hW1]; exact RowAt.new _ _ _
  have HA := Lib.hid (ha.keep hf1)
  have HF1 := Lib.hid hf1
  have HS1 := Lib.hid hf1.size
  have hown0 : (W1.alloc (.cells #[] 3)).ownsRow W1.heap.size 3 1 (.slice (some ⟨w.heap.size + 1, 0, none⟩) 0 0) 0 [] := by
    have e : w.heap.size + 1 = W1.heap.size := by rw [hW1]; simp
    rw [e]; exact World.ownsRow_made W1 #[] 0 (Nat.le_refl _) (by simp [maxLen]) rfl
  have HOWN0 := Lib.hid hown0
  have HW1 := Lib.hid hW1
  clear hown0 ha hf1 hW1
  go_enter Try.func25, Try.ntmps25
  go_wp2_with fail
  rw [← HW1.out]
  go_loopw [5, 11] (fun o j wr => ∃ k : Nat, k ≤ a.length ∧ j = .int .i64 k ∧ wr.ownsRow W1.heap.size 3 1 o ((a.take k).map (gIdx n.fibers)).length (((a.take k).map (gIdx n.fibers)).map iv) ∧ Fresh W1 wr) (fun _ j _ => a.length - (intOf j).toNat)
  case atStart => exact ⟨0, Nat.zero_le _, rfl, HOWN0.out, fnew (frefl _) _⟩
  case round =>
    obtain ⟨k, hk, rfl, hown, hf⟩ := hrel
    have HO := Lib.hid hown
    have HF := Lib.hid hf
    have e0 := (HR1.out.keep hf).cell (i := 0) rfl
    have e1 := (HR1.out.keep hf).cell (i := 1) rfl
    clear hown hf
    by_cases hlt : k < a.length
    · have hltz : (k : Int) < (a.length : Int) := by omega
      obtain ⟨b, off, x, rfl, hx, hc0⟩ := (HA.out.keep HF.out).at hlt
      have HY : Hid ((a.take (k + 1)).map (gIdx n.fibers) = (a.take k).map (gIdx n.fibers) ++ [gIdx n.fibers x]) := by show _ = _; rw [List.take_add_one, hx, List.map_append]; rfl
      have hil : ((a.take k).map (gIdx n.fibers)).length ≤ 1048576 := by rw [List.length_map, List.length_take]; omega
      obtain ⟨I, hI⟩ : ∃ I, I = (a.take k).map (gIdx n.fibers) := ⟨_, rfl⟩
      rw [← hI] at HO HY hil
      have HC := Lib.hid (groupOf_any _ n x wr (HN.out.keep (fstep HF1.out HF.out)) h14)
      obtain ⟨G, hG⟩ : ∃ G, G = gIdx n.fibers x := ⟨_, rfl⟩
      rw [← hG] at HC HY
      clear hI hG hx
      go_wp2_with fail
      refine (HC.out).mono ?_
      rintro e w2 ⟨rfl, hb⟩
      have hown2 := ownsRow_keep HO.out hb
      have HF2 := Lib.hid (fstep HF.out hb)
      clear hb e0 e1 hc0 HO
      go_wp2_with (at_builtin; refine wpList_app_i W1 _ _ I G _ rfl _ _ rfl rfl hown2 rfl rfl (by omega) HF2.out ?_; intro v' w3 hown3 hf3 _)
      have HO3 := Lib.hid hown3
      have HF3 := Lib.hid hf3
      clear hown2 hown3 hf3
      go_wp2
      go_roundw
      case rel => exact ⟨k + 1, by omega, by go_num, by rw [HY.out]; exact HO3.out, HF3.out⟩
      case measure => simp [intOf]; omega
    · have hkl : k = a.length := by omega
      have hltz : ¬ (k : Int) < (a.length : Int) := by omega
      subst hkl
      obtain ⟨pr, cr, rfl, ho⟩ := own_of_row HO.out
      have HOO := Lib.hid ho
      clear ho
      go_wp2
      go_ret
      have := HOO.out
      rw [List.take_length] at this
      exact ⟨pr, cr, by rw [List.length_map]; rfl, this.mono HS1.out, fstep HF1.out HF.out⟩

set_option maxHeartbeats 1000000 in
set_option maxRecDepth 100000 in
theorem apart_any (v : Value) (n : Net) (p p2 : Option Addr) (cap cap2 : Nat) (a b : List Int) (w : World) (h : NetIn w v n) (h14 : n.fibers.length ≤ 14) (hr : RiskOk n.fibers) (ha : Ints w p a) (na : a.length ≤ 1048576) (hb : Ints w p2 b) (nb : b.length ≤ 1048576) (ia : InF n.fibers a) (ib : InF n.fibers b) :
    Calls Try.prog 41 #[v, .slice p a.length cap, .slice p2 b.length cap2] w fun e w' => e = .returned (.bool (apartF n.fibers a b)) ∧ Fresh w w' := by
  have HLAW := Lib.hid (apart_law hr ia ib)
  have HN := Lib.hid h
  obtain ⟨q, m, c, p', k', d, hv⟩ := h.shape
  subst hv
  clear h hr ia ib
  obtain ⟨W1, hW1⟩ : ∃ W1, W1 = w.alloc (.cells #[.slice q m c, .slice p' k' d] 27) := ⟨_, rfl⟩
  have hf1 : Fresh w W1 := by rw [hW1]; exact fnew (frefl _) _
  have hr1 : RowAt W1 w.heap.size 27 [.slice q m c, .slice p' k' d] := by rw [hW1]; exact RowAt.new _ _ _
  have HA := Lib.hid (ha.keep hf1)
  have HB := Lib.hid (hb.keep hf1)
  have HF1 := Lib.hid hf1
  have e0 := hr1.cell (i := 0) rfl
  have e1 := hr1.cell (i := 1) rfl
  have HW1 := Lib.hid hW1
  clear hr1 ha hb hf1 hW1
  go_enter Try.func41, Try.ntmps41
  go_wp2_with fail
  rw [← HW1.out]
  obtain ⟨A, hA⟩ : ∃ A, A = a.map (gIdx n.fibers) := ⟨_, rfl⟩
  obtain ⟨B, hB⟩ : ∃ B, B = b.map (gIdx n.fibers) := ⟨_, rfl⟩
  obtain ⟨CL, hCL⟩ : ∃ CL, CL = commonF A B := ⟨_, rfl⟩
  have HRA : Hid (∀ W, Fresh W1 W → Calls Try.prog 25 #[.agg #[.slice q m c, .slice p' k' d], .slice p a.length cap] W (OutInts W A)) := fun W hW => by rw [hA]; exact risksOf_any _ n p cap a W (HN.out.keep (fstep HF1.out hW)) h14 (HA.out.keep hW) na
  have HRB : Hid (∀ W, Fresh W1 W → Calls Try.prog 25 #[.agg #[.slice q m c, .slice p' k' d], .slice p2 b.length cap2] W (OutInts W B)) := fun W hW => by rw [hB]; exact risksOf_any _ n p2 cap2 b W (HN.out.keep (fstep HF1.out hW)) h14 (HB.out.keep hW) nb
  have HRC : Hid (∀ W pa pb ca cb, Ints W pa A → Ints W pb B → Calls Try.prog 24 #[.slice pa A.length ca, .slice pb B.length cb] W (OutInts W CL)) := fun W pa pb ca cb h1 h2 => by rw [hCL]; exact common_any pa pb ca cb A B W h1 h2 (by rw [hA, List.length_map]; exact na) (by rw [hB, List.length_map]; exact nb)
  have HLAW2 : Hid (((CL.length : Int) == 0) = apartF n.fibers a b) := by
    show _ = _
    have := common_pos A B
    rw [← hCL] at this
    rw [← HLAW.out, ← hA, ← hB, ← this, Bool.eq_iff_iff]
    simp
  clear hA hB hCL HLAW
  have tok1 : True := trivial
  have HSS : Fresh W1 W1 ∧ W1.cell? ⟨w.heap.size, 0, none⟩ = some (.slice q m c) ∧ W1.cell? ⟨w.heap.size, 1, none⟩ = some (.slice p' k' d) := ⟨frefl _, e0, e1⟩
  go_region_held3 (fun w' => Fresh W1 w' ∧ w'.cell? ⟨w.heap.size, 0, none⟩ = some (.slice q m c) ∧ w'.cell? ⟨w.heap.size, 1, none⟩ = some (.slice p' k' d))
    (first | assumption | exact keepc2 (by assumption) (by assumption) | exact keepc2 (by assumption) (fdrew (frefl _)) | exact keepc2 (by assumption) (frefl _))
    (first | (go_at_call 25; have _t := tok1; refine (HRA.out _ (And.left (by assumption))).mono ?_; rintro e w2 ⟨pa, ca, rfl, hy, hb2⟩; have HYA := Lib.hid hy.ints; clear hy tok1 _t) | (go_at_call 25; refine (HRB.out _ (And.left (by assumption))).mono ?_; rintro e w3 ⟨pb, cb, rfl, hy, hb3⟩; have HYB := Lib.hid hy.ints; clear hy) | (go_at_call 24; refine (HRC.out _ _ _ _ _ (HYA.out.keep hb3) HYB.out).mono ?_; rintro e w4 ⟨pc, cc, rfl, hy, hb4⟩; clear hy))
  have HF : Hid (Fresh W1 w4) := fstep (fstep (fstep (fdrew (frefl _)) hb2) hb3) hb4
  go_wp2
  go_ret
  exact ⟨ret_bool HLAW2.out, fstep HF1.out HF.out⟩
theorem groupL_zero {F : List Fib} {i : Nat} (h : riskAt F i = 0) : groupL F (i : Int) = [(i : Int)] := by unfold groupL; rw [if_pos (by simpa using h)]
theorem groupL_pos {F : List Fib} {i : Nat} {r : Int} (h : riskAt F i = r) (hr : r ≠ 0) : groupL F (i : Int) = ofRisk F r F.length := by
  unfold groupL
  have e : riskAt F (i : Int).toNat = r := by simpa using h
  rw [e, if_neg hr]
set_option maxHeartbeats 1000000 in
set_option maxRecDepth 100000 in
theorem l2Group_any (v : Value) (n : Net) (i : Nat) (w : World) (h : NetIn w v n) (h14 : n.fibers.length ≤ 14) (hi : i < n.fibers.length) :
    Calls Try.prog 48 #[v, .int .i64 (i : Int)] w (OutInts w (groupL n.fibers i)) := by
  obtain ⟨q, c, p, d, rfl, hq, hp, _⟩ := h
  obtain ⟨F, hF⟩ : ∃ F, F = n.fibers := ⟨_, rfl⟩
  rw [← hF] at hp hi h14 ⊢
  obtain ⟨W1, hW1⟩ : ∃ W1, W1 = w.alloc (.cells #[.slice q n.nodes.length c, .slice p F.length d] 27) := ⟨_, rfl⟩
  have hf1 : Fresh w W1 := by rw [hW1]; exact fnew (frefl _) _
  have hr1 : RowAt W1 w.heap.size 27 [.slice q n.nodes.length c, .slice p F.length d] := by rw [hW1]; exact RowAt.new _ _ _
  have HR1 := Lib.hid hr1
  have HP := Lib.hid (hp.keep hf1)
  have HF1 := Lib.hid hf1
  have HS1 := Lib.hid hf1.size
  have hown0 : (W1.alloc (.cells #[] 3)).ownsRow W1.heap.size 3 1 (.slice (some ⟨w.heap.size + 1, 0, none⟩) 0 0) 0 [] := by
    have e : w.heap.size + 1 = W1.heap.size := by rw [hW1]; simp
    rw [e]; exact World.ownsRow_made W1 #[] 0 (Nat.le_refl _) (by simp [maxLen]) rfl
  have HOWN0 := Lib.hid hown0
  have HW1 := Lib.hid hW1
  have hiz : (i : Int) < (F.length : Int) := by omega
  obtain ⟨bi, oi, xi, yi, zi, ui, rfl, hxi, i0, i1, i2, i3⟩ := hp.at hi
  have HXI := Lib.hid (riskAt_of hxi)
  have HI3 : Hid (W1.cell? ⟨bi, oi + i * 4 + 3, none⟩ = some (.int .i64 ui)) := Lib.hid (fkeep hf1 i3)
  have L3 := fkeep (fnew (frefl w) (.cells #[.slice q n.nodes.length c, .slice (some ⟨bi, oi, none⟩) F.length d] 27)) i3
  clear hown0 hr1 hp hf1 hq hF hxi i0 i1 i2 i3
  go_enter Try.func48, Try.ntmps48
  by_cases hz : ui = 0
  · have hzb : (ui == 0) = true := by simp [hz]
    have HE := Lib.hid (groupL_zero (F := F) (i := i) (by rw [HXI.out]; exact hz))
    have HSZ : Hid (W1.heap.size = w.heap.size + 1) := by show _ = _; rw [hW1]; simp
    clear hz hW1
    go_wp2
    rw [← HW1.out]
    go_ret
    rw [HE.out]
    exact ⟨_, _, rfl, Or.inr ⟨W1.heap.size, [], by rw [HSZ.out], HS1.out, RowAt.new W1 3 [iv (i : Int)]⟩, fnew HF1.out _⟩
  · have hzb : (ui == 0) = false := by simp [hz]
    have HE := Lib.hid (groupL_pos (F := F) (i := i) HXI.out hz)
    clear hz hW1
    go_wp2
    rw [← HW1.out]
    go_loopw [5, 6] (fun o j wr => ∃ k : Nat, k ≤ F.length ∧ j = .int .i64 k ∧ wr.ownsRow W1.heap.size 3 1 o (ofRisk F ui k).length ((ofRisk F ui k).map iv) ∧ Fresh W1 wr) (fun _ j _ => F.length - (intOf j).toNat)
    case atStart => exact ⟨0, Nat.zero_le _, rfl, HOWN0.out, fnew (frefl _) _⟩
    case round =>
      obtain ⟨k, hk, rfl, hown, hf⟩ := hrel
      have HO := Lib.hid hown
      have HF := Lib.hid hf
      have hln := ofRisk_len F ui k
      have d1 := (HR1.out.keep hf).cell (i := 1) rfl
      clear hown hf L3
      by_cases hlt : k < F.length
      · have hltz : (k : Int) < (F.length : Int) := by omega
        obtain ⟨b, off, x, y, z, u, hp2, hx, c0, c1, c2, c3⟩ := (HP.out.keep HF.out).at hlt
        cases hp2
        have HX := Lib.hid (riskAt_of hx)
        have j1 := fun xa : After wr => akeep d1 xa
        have j3 := fun xa : After wr => akeep c3 xa
        have jj := fun xa : After wr => akeep (fkeep HF.out HI3.out) xa
        clear hx c0 c1 c2
        by_cases hz : u = ui
        · have hzb2 : (u == ui) = true := by simp [hz]
          have HY : Hid (ofRisk F ui (k + 1) = ofRisk F ui k ++ [(k : Int)]) := ofRisk_yes (by rw [HX.out]; exact hz)
          obtain ⟨I, hI⟩ : ∃ I, I = ofRisk F ui k := ⟨_, rfl⟩
          rw [← hI] at HO HY hln
          clear hI hz
          go_wp2
          refine wp_region_after (by kernel_rfl) (by kernel_rfl) ?_
          repeat (go_big_quiet_step (fail))
          refine wpQuiet_nil ?_
          rintro _ ⟨xa, rfl⟩
          have hown2 := ownsRow_keep HO.out xa.h
          have HF2 := Lib.hid (fstep HF.out xa.h)
          clear j1 j3 jj d1 c3 HO
          go_wp2_with (at_builtin; refine wpList_app_i W1 _ _ I (k : Int) _ rfl _ _ rfl rfl hown2 rfl rfl (by omega) HF2.out ?_; intro v' w3 hown3 hf3 _)
          have HO3 := Lib.hid hown3
          have HF3 := Lib.hid hf3
          clear hown2 hown3 hf3
          go_wp2
          go_roundw
          case rel => exact ⟨k + 1, by omega, by go_num, by rw [HY.out]; exact HO3.out, HF3.out⟩
          case measure => simp [intOf]; omega
        · have hzb2 : (u == ui) = false := by simp [hz]
          have HY : Hid (ofRisk F ui (k + 1) = ofRisk F ui k) := ofRisk_no (by rw [HX.out]; exact hz)
          clear hz
          go_wp2
          refine wp_region_after (by kernel_rfl) (by kernel_rfl) ?_
          repeat (go_big_quiet_step (fail))
          refine wpQuiet_nil ?_
          rintro _ ⟨xa, rfl⟩
          go_wp2
          go_roundw
          case rel => exact ⟨k + 1, by omega, by go_num, by rw [HY.out]; exact ownsRow_keep HO.out xa.h, fstep HF.out xa.h⟩
          case measure => simp [intOf]; omega
      · have hkl : k = F.length := by omega
        have hltz : ¬ (k : Int) < (F.length : Int) := by omega
        subst hkl
        obtain ⟨pr, cr, rfl, ho⟩ := own_of_row HO.out
        have HOO := Lib.hid ho
        clear ho
        go_wp2
        go_ret
        rw [HE.out]
        exact ⟨pr, cr, rfl, HOO.out.mono HS1.out, fstep HF1.out HF.out⟩
end Go.Proofs.Ytlapicgeokjpjaa
