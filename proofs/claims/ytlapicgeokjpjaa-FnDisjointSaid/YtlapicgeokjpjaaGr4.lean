/- Contracts: two routes of which no two fibers fail with each other, the reference's side. -/
import Derived.Test.YtlapicgeokjpjaaGr3
namespace Go.Proofs.Ytlapicgeokjpjaa
open Go.RowKit Go.PlainAid

theorem apart_no {F : List Fib} {a b : List Int} {i j : Nat} {x y : Int} (hx : a[i]? = some x) (hy : b[j]? = some y) (h : sameG F x y = true) : apartF F a b = false := by
  unfold apartF
  have : (a.any fun i => b.any fun j => sameG F i j) = true := List.any_eq_true.2 ⟨x, List.mem_of_getElem? hx, List.any_eq_true.2 ⟨y, List.mem_of_getElem? hy, h⟩⟩
  rw [this]; rfl
theorem any_row {b : List Int} {f : Int → Bool} (h : ∀ j y, j < b.length → b[j]? = some y → f y = false) : b.any f = false := by
  rw [List.any_eq_false]
  intro y hy
  obtain ⟨j, hj⟩ := List.mem_iff_getElem?.1 hy
  have hlt : j < b.length := by
    rcases Nat.lt_or_ge j b.length with h' | h'
    · exact h'
    · rw [List.getElem?_eq_none h'] at hj; cases hj
  rw [h j y hlt hj]; simp
set_option maxHeartbeats 4000000 in
set_option maxRecDepth 100000 in
theorem l4Apart_any (v : Value) (n : Net) (s s2 : Int) (p p2 : Option Addr) (cap cap2 : Nat) (a b : List Int) (w : World) (h : NetIn w v n) (h14 : n.fibers.length ≤ 14) (ha : Ints w p a) (na : a.length ≤ 1048576) (hb : Ints w p2 b) (nb : b.length ≤ 1048576) (ia : InF n.fibers a) (ib : InF n.fibers b) :
    Calls Try.prog 43 #[v, .agg #[.int .i64 s, .slice p a.length cap], .agg #[.int .i64 s2, .slice p2 b.length cap2]] w fun e w' => e = .returned (.bool (apartF n.fibers a b)) ∧ Fresh w w' := by
  have HN := Lib.hid h
  obtain ⟨q, m, c, p', k', d, hv⟩ := h.shape
  subst hv
  clear h
  obtain ⟨W1, hW1, hsz, hf1, r1, r2, r3⟩ := three_rows w [.slice q m c, .slice p' k' d] [.int .i64 s, .slice p a.length cap] [.int .i64 s2, .slice p2 b.length cap2] 27 30 30
  have HIA := Lib.hid ia
  have HIB := Lib.hid ib
  have HA := Lib.hid (ha.keep hf1)
  have HB := Lib.hid (hb.keep hf1)
  have HF1 := Lib.hid hf1
  have HR1 := Lib.hid r1
  have HR2 := Lib.hid r2
  have HR3 := Lib.hid r3
  have HW1 := Lib.hid hW1
  clear r1 r2 r3 ha hb hf1 hW1 hsz ia ib
  go_enter Try.func43, Try.ntmps43
  go_wp2_with fail
  rw [← HW1.out]
  go_loopw [7] (fun j wr => ∃ k : Nat, k ≤ a.length ∧ j = .int .i64 k ∧ (∀ i x, i < k → a[i]? = some x → (b.any fun y => sameG n.fibers x y) = false) ∧ Fresh W1 wr) (fun j _ => a.length - (intOf j).toNat)
  case atStart => exact ⟨0, Nat.zero_le _, rfl, fun i x hi => by omega, frefl _⟩
  case round =>
    obtain ⟨k, hk, rfl, hall, hf⟩ := hrel
    have HALL := Lib.hid hall
    have HF := Lib.hid hf
    have e0 := (HR1.out.keep hf).cell (i := 0) rfl
    have e1 := (HR1.out.keep hf).cell (i := 1) rfl
    have e3 := (HR2.out.keep hf).cell (i := 1) rfl
    clear hall hf
    obtain ⟨wo, rfl⟩ : ∃ wo, wo = wr := ⟨_, rfl⟩
    by_cases hlt : k < a.length
    · have hltz : (k : Int) < (a.length : Int) := by omega
      obtain ⟨ba, oa, x0, rfl, hx, hc0⟩ := (HA.out.keep HF.out).at hlt
      obtain ⟨x0a, x0b⟩ := HIA.out x0 (List.mem_of_getElem? hx)
      obtain ⟨x, rfl⟩ : ∃ x : Nat, x0 = (x : Int) := ⟨x0.toNat, by omega⟩
      have HX := Lib.hid hx
      have HCG : Hid (∀ W, Fresh wo W → Calls Try.prog 48 #[.agg #[.slice q m c, .slice p' k' d], .int .i64 (x : Int)] W (OutInts W (groupL n.fibers x))) := fun W hW => l2Group_any _ n x W (HN.out.keep (fstep HF1.out (fstep HF.out hW))) h14 (by omega)
      have hgl := groupL_len n.fibers (x : Int)
      have HGM := Lib.hid (fun (y : Int) (hy : y ∈ b) => groupL_mem (F := n.fibers) (i := (x : Int)) (HIB.out y hy).1 (HIB.out y hy).2)
      obtain ⟨G, hG⟩ : ∃ G, G = groupL n.fibers (x : Int) := ⟨_, rfl⟩
      rw [← hG] at HCG hgl HGM
      clear hx hG
      go_wp2
      have HSS : Fresh wo wo ∧ wo.cell? ⟨w.heap.size, 0, none⟩ = some (.slice q m c) ∧ wo.cell? ⟨w.heap.size, 1, none⟩ = some (.slice p' k' d) ∧ wo.cell? ⟨w.heap.size + 1, 1, none⟩ = some (.slice (some ⟨ba, oa, none⟩) a.length cap) ∧ wo.cell? ⟨ba, oa + k, none⟩ = some (.int .i64 (x : Int)) := ⟨frefl _, e0, e1, e3, hc0⟩
      go_region_held3 (fun w' => Fresh wo w' ∧ w'.cell? ⟨w.heap.size, 0, none⟩ = some (.slice q m c) ∧ w'.cell? ⟨w.heap.size, 1, none⟩ = some (.slice p' k' d) ∧ w'.cell? ⟨w.heap.size + 1, 1, none⟩ = some (.slice (some ⟨ba, oa, none⟩) a.length cap) ∧ w'.cell? ⟨ba, oa + k, none⟩ = some (.int .i64 (x : Int)))
        (first | assumption | exact keepc4 (by assumption) (by assumption) | exact keepc4 (by assumption) (fdrew (frefl _)) | exact keepc4 (by assumption) (frefl _))
        (first | (go_at_call 48; refine (HCG.out _ (And.left (by assumption))).mono ?_; rintro e w2 ⟨pg, cg, rfl, hy, hb2⟩; have HY := Lib.hid hy.ints; clear hy))
      have HF2 : Hid (Fresh wo w2) := fstep (fdrew (frefl _)) hb2
      clear HSS hb2 e0 e1 e3 hc0 HCG
      go_wp2
      go_loopw [9] (fun j wr => ∃ i : Nat, i ≤ b.length ∧ j = .int .i64 i ∧ (∀ t y, t < i → b[t]? = some y → sameG n.fibers (x : Int) y = false) ∧ Fresh w2 wr) (fun j _ => b.length - (intOf j).toNat)
      case atStart => exact ⟨0, Nat.zero_le _, rfl, fun t y ht => by omega, frefl _⟩
      case round =>
        obtain ⟨i, hi, rfl, hall, hf⟩ := hrel
        have HALL2 := Lib.hid hall
        have HFW := Lib.hid hf
        have d3 := (HR3.out.keep (fstep HF.out (fstep HF2.out hf))).cell (i := 1) rfl
        clear hall hf
        by_cases hlt2 : i < b.length
        · have hltz2 : (i : Int) < (b.length : Int) := by omega
          obtain ⟨bb, ob, y, hpb, hy, hcy⟩ := (HB.out.keep (fstep HF.out (fstep HF2.out HFW.out))).at hlt2
          subst hpb
          have hgm := HGM.out y (List.mem_of_getElem? hy)
          have HYY := Lib.hid hy
          have HCH := Lib.hid (l1Has_any pg cg G y wr (HY.out.keep HFW.out) (by omega))
          clear hy
          cases hs : sameG n.fibers (x : Int) y
          · rw [hs] at hgm
            rw [hgm] at HCH
            have HNX := Lib.hid (notP HALL2.out HYY.out hs)
            clear hgm hs
            go_wp2_with fail
            refine (HCH.out).mono ?_
            rintro e w4 ⟨rfl, rfl⟩
            go_wp2
            go_roundw
            case rel => exact ⟨i + 1, by omega, by go_num, HNX.out, HFW.out⟩
            case measure => simp [intOf]; omega
          · rw [hs] at hgm
            rw [hgm] at HCH
            have HNO := Lib.hid (apart_no (F := n.fibers) HX.out HYY.out hs)
            clear hgm hs
            go_wp2_with fail
            refine (HCH.out).mono ?_
            rintro e w4 ⟨rfl, rfl⟩
            go_wp2
            go_ret
            exact ⟨ret_bool HNO.out.symm, fstep HF1.out (fstep HF.out (fstep HF2.out HFW.out))⟩
        · have hin : i = b.length := by omega
          have hltz2 : ¬ (i : Int) < (b.length : Int) := by omega
          subst hin
          have HNX := Lib.hid (notP HALL.out HX.out (any_row HALL2.out))
          go_wp2
          go_roundw
          case rel => exact ⟨k + 1, by omega, by go_num, HNX.out, fstep HF.out (fstep HF2.out HFW.out)⟩
          case measure => simp [intOf]; omega
    · have hkn : k = a.length := by omega
      have hltz : ¬ (k : Int) < (a.length : Int) := by omega
      subst hkn
      have HE : Hid (apartF n.fibers a b = true) := by
        show _ = _
        unfold apartF
        rw [any_row HALL.out]; rfl
      go_wp2
      go_ret
      exact ⟨ret_bool HE.out.symm, fstep HF1.out HF.out⟩
end Go.Proofs.Ytlapicgeokjpjaa
