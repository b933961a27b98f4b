/- Contracts: BestFit of the reference; the walk of its law. -/
import Derived.Test.YtkafmhgnbfofjaaBest
namespace Go.Proofs.Ytkafmhgnbfofjaa
open Go.RowKit

/-- The best block, or the zero block. -/
def bestB (m c : Int) : Int × Int := if (bestR c (runs m)).2 = 0 then (0, 0) else ((bestR c (runs m)).1, c)
theorem bestB_none {m c : Int} (h : (bestR c (runs m)).2 = 0) : bestB m c = (0, 0) := by simp [bestB, h]
theorem bestB_some {m c : Int} (h : (bestR c (runs m)).2 ≠ 0) : bestB m c = ((bestR c (runs m)).1, c) := by simp [bestB, h]
def agg2 (r : Int × Int) : Value := .agg #[.int .i64 r.1, .int .i64 r.2]

set_option maxHeartbeats 2000000 in
theorem l8Best_any (m c : Int) (w : World) (g1 : 0 ≤ m) (g3 : 1 ≤ c) :
    Calls Try.prog 72 #[.int .i64 m, .int .i64 c] w fun e w' => e = .returned (agg2 (bestB m c)) ∧ Fresh w w' := by
  have HN := Lib.hid (bestB_none (m := m) (c := c))
  have HY := Lib.hid (bestB_some (m := m) (c := c))
  have HOR := Lib.hid (bestR_or c (runs m))
  have hlen := runs_len m
  go_enter Try.func72, Try.ntmps72
  go_wp2_with fail
  refine (l8Runs_any _ _ g1).mono ?_; rintro e w1 ⟨p, cap, rfl, ho, hb⟩
  generalize hL : runs m = L at *
  have HL := Lib.hid hL
  clear hL
  have HB := Lib.hid hb
  have HO := Lib.hid ho
  have hs0 := boxsize hb
  simp only [World.size_alloc] at hs0
  clear hb ho
  go_wp2
  go_loopw [7] (fun i wr => ∃ k : Nat, k ≤ L.length ∧ i = .int .i64 k ∧ RowAt wr (w.heap.size + 1) 25 [iv (bestR c (L.take k)).1, iv (bestR c (L.take k)).2] ∧ RowAt wr w.heap.size 25 [iv 0, iv 0] ∧ Own wr (w.heap.size + 2) 25 p (pcs L) ∧ Fresh w wr) (fun i _ => L.length - (intOf i).toNat)
  case atStart =>
    refine ⟨0, Nat.zero_le _, rfl, ?_, ?_, ?_, ?_⟩
    · have := boxrow (cs := [iv 0, iv 0]) HB.out
      simpa [bestR] using this
    · exact ((RowAt.new w 25 [iv 0, iv 0]).alloc _).keep HB.out
    · have := HO.out
      simpa using this
    · exact fstep (fnew (fnew (frefl _) _) _) HB.out
  case round =>
    obtain ⟨k, hk, rfl, hr1, hr0, hown, hf⟩ := hrel
    have R1 := Lib.hid hr1
    have R0 := Lib.hid hr0
    have O := Lib.hid hown
    have HF := Lib.hid hf
    clear HB HO
    rcases hbk : bestR c (L.take k) with ⟨b1, b2⟩
    rw [hbk] at hr1
    have HK := Lib.hid hbk
    clear hbk
    have c0 : wr.cell? ⟨w.heap.size + 1, 0, none⟩ = some (.int .i64 b1) := hr1.cell rfl
    have c1 : wr.cell? ⟨w.heap.size + 1, 1, none⟩ = some (.int .i64 b2) := hr1.cell rfl
    have f0 := hr1.frozen 0
    have f1 := hr1.frozen 1
    have hsz := hr1.lt
    by_cases hlt : k < L.length
    · obtain ⟨b, off, x, y, rfl, hx, hc0, hc1⟩ := hown.prs.at hlt
      have HX := Lib.hid (bestR_step (c := c) hx)
      have hz : (k : Int) < (L.length : Int) := by omega
      clear hx hr1 hr0 hown hf
      by_cases h1 : c ≤ y
      · have hd1 : decide (c ≤ y) = true := decide_eq_true h1
        by_cases h2 : b2 = 0
        · have HT := Lib.hid (bstep_take (c := c) (b := (b1, b2)) (r := (x, y)) h1 (Or.inl h2))
          have hd2 : (b2 == 0) = true := beq_iff_eq.2 h2
          clear h2
          go_wp2
          go_quiet (fail)
          go_wp2
          go_roundw
          case rel =>
            have hq : bestR c (L.take (k + 1)) = (x, y) := by rw [HX.out, HK.out, HT.out]
            refine ⟨k + 1, by omega, by go_num, ?_, ?_, ?_, ?_⟩
            · rw [hq]; exact (R1.out.set 0 (iv x)).set 1 (iv y)
            · exact (R0.out.setOther (by omega) _).setOther (by omega) _
            · exact (O.out.setOther (by omega) _).setOther (by omega) _
            · exact fset (fset (fdrewN HF.out _) (by omega) _) (by omega) _
          case measure => simp [intOf]; omega
        · have hd2 : (b2 == 0) = false := beq_eq_false_iff_ne.2 h2
          by_cases h3 : y < b2
          · have HT := Lib.hid (bstep_take (c := c) (b := (b1, b2)) (r := (x, y)) h1 (Or.inr h3))
            have hd3 : decide (y < b2) = true := decide_eq_true h3
            go_wp2
            go_quiet (fail)
            go_wp2
            go_roundw
            case rel =>
              have hq : bestR c (L.take (k + 1)) = (x, y) := by rw [HX.out, HK.out, HT.out]
              refine ⟨k + 1, by omega, by go_num, ?_, ?_, ?_, ?_⟩
              · rw [hq]; exact (R1.out.set 0 (iv x)).set 1 (iv y)
              · exact (R0.out.setOther (by omega) _).setOther (by omega) _
              · exact (O.out.setOther (by omega) _).setOther (by omega) _
              · exact fset (fset (fdrewN HF.out _) (by omega) _) (by omega) _
            case measure => simp [intOf]; omega
          · have HT := Lib.hid (bstep_skip (c := c) (b := (b1, b2)) (r := (x, y)) (by rintro ⟨_, h | h⟩; exact h2 h; exact h3 h))
            have hd3 : decide (y < b2) = false := decide_eq_false h3
            go_wp2
            go_quiet (fail)
            go_wp2
            go_roundw
            case rel =>
              have hq : bestR c (L.take (k + 1)) = (b1, b2) := by rw [HX.out, HK.out, HT.out]
              refine ⟨k + 1, by omega, by go_num, ?_, R0.out, O.out, fdrewN HF.out _⟩
              rw [hq, ← HK.out]; exact R1.out
            case measure => simp [intOf]; omega
      · have HT := Lib.hid (bstep_skip (c := c) (b := (b1, b2)) (r := (x, y)) (fun h => h1 h.1))
        have hd1 : decide (c ≤ y) = false := decide_eq_false h1
        go_wp2
        go_quiet (fail)
        go_wp2
        go_roundw
        case rel =>
          have hq : bestR c (L.take (k + 1)) = (b1, b2) := by rw [HX.out, HK.out, HT.out]
          refine ⟨k + 1, by omega, by go_num, ?_, R0.out, O.out, fdrewN HF.out _⟩
          rw [hq, ← HK.out]; exact R1.out
        case measure => simp [intOf]; omega
    · have hkn : k = L.length := by omega
      have HE : Hid (bestR c L = (b1, b2)) := by have := HK.out; rw [hkn, List.take_length] at this; exact this
      have d0 : wr.cell? ⟨w.heap.size, 0, none⟩ = some (.int .i64 0) := hr0.cell rfl
      have d1 : wr.cell? ⟨w.heap.size, 1, none⟩ = some (.int .i64 0) := hr0.cell rfl
      have e0 := hr0.frozen 0
      have e1 := hr0.frozen 1
      clear hr1 hr0 hown hf
      by_cases h2 : b2 = 0
      · have hb1 : b1 = 0 := by
          rcases HOR.out with h | h
          · rw [HE.out] at h; simp at h; exact h.1
          · rw [HE.out] at h; simp only at h; omega
        have HP := Lib.hid (HN.out (by rw [HE.out]; exact h2))
        subst h2 hb1
        subst hkn
        go_wp2
        refine bodyPost_ret (v := agg2 (0, 0)) (by simp [results, Try.results72, go_sem, agg2, d0, d1]) rfl ⟨by rw [HP.out], fset (fset HF.out (Nat.le_refl _) _) (Nat.le_refl _) _⟩
      · have HP := Lib.hid (HY.out (by rw [HE.out]; exact h2))
        have h2' : 0 < b2 := by
          rcases HOR.out with h | h
          · rw [HE.out] at h; simp at h; exact absurd h.2 h2
          · rw [HE.out] at h; simp only at h; omega
        clear h2
        subst hkn
        go_wp2
        refine bodyPost_ret (v := agg2 (b1, c)) (by simp [results, Try.results72, go_sem, agg2, d0, d1]) rfl ⟨by rw [HP.out, HE.out], ?_⟩
        repeat (first | exact HF.out | (refine fset ?_ (by omega) _))

theorem fldBlk1 (a b : Int) (u : World) : (Instr.field 25 (.agg #[.int .i64 a, .int .i64 b]) 1).run Try.prog u = .ok (.int .i64 b) u := by kernel_rfl

set_option maxHeartbeats 2000000 in
theorem specBestFit_any (m c : Int) (w : World) :
    Calls Try.prog 40 #[.int .i64 m, .int .i64 c] w fun e w' => e = .returned (blkRes (bestF m c)) ∧ Fresh w w' := by
  cases ha : askB m c
  · have HP := Lib.hid (bestF_no ha)
    go_enter Try.func40, Try.ntmps40
    go_wp2_with (go_at_call 65; refine (l8Asked_any _ _ _).mono ?_; rintro e w' ⟨rfl, rfl⟩)
    refine bodyPost_ret (v := blkRes (0, 0, false)) (by simp [results, Try.results40, go_sem, blkRes]) rfl ⟨by rw [HP.out], fnew (frefl _) _⟩
  · obtain ⟨⟨g1, g2⟩, g3, g4⟩ := askB_iff.1 ha
    have HOR := bestR_or c (runs m)
    by_cases h2 : (bestR c (runs m)).2 = 0
    · have HB := Lib.hid (bestB_none h2)
      have HP := Lib.hid (bestF_none h2)
      clear HOR h2
      have kf := fldBlk1
      go_enter Try.func40, Try.ntmps40
      go_wp2_with (go_at_call 65; refine (l8Asked_any _ _ _).mono ?_; rintro e w' ⟨rfl, rfl⟩)
      refine (l8Best_any _ _ _ g1 g3).mono ?_; rw [HB.out]; unfold agg2; rintro e w1 ⟨rfl, hb⟩
      have c0 : w1.cell? ⟨w.heap.size, 0, none⟩ = some (.int .i64 0) := box hb 0 rfl
      have c1 : w1.cell? ⟨w.heap.size, 1, none⟩ = some (.int .i64 0) := box hb 1 rfl
      have f0 := boxf hb 0
      have f1 := boxf hb 1
      go_wp2
      refine bodyPost_ret (v := blkRes (0, 0, false)) (by simp [results, Try.results40, go_sem, blkRes, c0, c1]) rfl ⟨by rw [HP.out], fset (fset (fstep (fnew (frefl _) _) hb) (Nat.le_refl _) _) (Nat.le_refl _) _⟩
    · have HB := Lib.hid (bestB_some h2)
      have HP := Lib.hid (bestF_yes ha h2)
      clear HOR h2
      generalize (bestR c (runs m)).1 = b1 at *
      have hc : (c == 0) = false := beq_eq_false_iff_ne.2 (by omega)
      have kf := fldBlk1
      go_enter Try.func40, Try.ntmps40
      go_wp2_with (go_at_call 65; refine (l8Asked_any _ _ _).mono ?_; rintro e w' ⟨rfl, rfl⟩)
      refine (l8Best_any _ _ _ g1 g3).mono ?_; rw [HB.out]; unfold agg2; rintro e w1 ⟨rfl, hb1⟩
      go_wp2_with fail
      refine (l8Best_any _ _ _ g1 g3).mono ?_; rw [HB.out]; unfold agg2; rintro e w2 ⟨rfl, hb2⟩
      have hb := fstep hb1 hb2
      have c0 : w2.cell? ⟨w.heap.size, 0, none⟩ = some (.int .i64 0) := box hb 0 rfl
      have c1 : w2.cell? ⟨w.heap.size, 1, none⟩ = some (.int .i64 0) := box hb 1 rfl
      have f0 := boxf hb 0
      have f1 := boxf hb 1
      go_wp2
      refine bodyPost_ret (v := blkRes (b1, c, true)) (by simp [results, Try.results40, go_sem, blkRes, c0, c1]) rfl ⟨by rw [HP.out], fset (fset (fstep (fnew (frefl _) _) hb) (Nat.le_refl _) _) (Nat.le_refl _) _⟩

set_option maxHeartbeats 1000000 in
theorem law_BestFit (m c : Int) (w : World) (_ : -9223372036854775808 ≤ m ∧ m ≤ 9223372036854775807) (_ : -9223372036854775808 ≤ c ∧ c ≤ 9223372036854775807) :
    Calls Try.prog 10 #[.int .i64 m, .int .i64 c] w fun e w' => e = .returned (.bool true) ∧ Fresh w w' := by
  generalize hr : bestF m c = r
  obtain ⟨x, y, ok⟩ := r
  have HR := Lib.hid hr
  clear hr
  go_enter Try.func10, Try.ntmps10
  go_wp2_with fail
  refine (specBestFit_any _ _ _).mono ?_; rintro e w1 ⟨rfl, hb1⟩
  rw [HR.out]; unfold blkRes
  go_wp2_with fail
  refine (implBestFit_any _ _ _).mono ?_; rintro e w2 ⟨rfl, hb2⟩
  rw [HR.out]; unfold blkRes
  have c0 : w2.cell? ⟨w1.heap.size, 0, none⟩ = some (.int .i64 x) := box hb2 0 rfl
  have c1 : w2.cell? ⟨w1.heap.size, 1, none⟩ = some (.int .i64 y) := box hb2 1 rfl
  have hz := boxsize hb2
  go_wp2_with fail
  refine (eqBlock_same _ _ _).mono ?_; rintro e w3 ⟨rfl, hb3⟩
  go_wp2
  go_ret
  exact ⟨rfl, fstep hb1 (fstep (fnew (frefl _) _) (fstep hb2 (fstep (fnew (frefl _) _) hb3)))⟩
end Go.Proofs.Ytkafmhgnbfofjaa
