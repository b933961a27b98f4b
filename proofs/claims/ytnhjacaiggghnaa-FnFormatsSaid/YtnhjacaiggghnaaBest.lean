/- Contracts: BestFit on both sides; the walk of its law. -/
import Derived.Test.YtnhjacaiggghnaaRuns
import Derived.Test.YtnhjacaiggghnaaFit2
namespace Go.Proofs.Ytnhjacaiggghnaa
open Go.RowKit

/-- The better of a run and the best one so far. -/
def bstep (c : Int) (b r : Int × Int) : Int × Int := if c ≤ r.2 ∧ (b.2 = 0 ∨ r.2 < b.2) then r else b
def bestR (c : Int) (l : List (Int × Int)) : Int × Int := l.foldl (bstep c) (0, 0)
theorem bestR_step {c : Int} {l : List (Int × Int)} {k : Nat} {r : Int × Int} (h : l[k]? = some r) : bestR c (l.take (k + 1)) = bstep c (bestR c (l.take k)) r := by
  unfold bestR; rw [List.take_add_one, h]; simp
theorem bstep_take {c : Int} {b r : Int × Int} (h : c ≤ r.2) (h' : b.2 = 0 ∨ r.2 < b.2) : bstep c b r = r := by unfold bstep; rw [if_pos ⟨h, h'⟩]
theorem bstep_skip {c : Int} {b r : Int × Int} (h : ¬ (c ≤ r.2 ∧ (b.2 = 0 ∨ r.2 < b.2))) : bstep c b r = b := by unfold bstep; rw [if_neg h]
theorem bestR_or (c : Int) (l : List (Int × Int)) : bestR c l = (0, 0) ∨ c ≤ (bestR c l).2 := by
  have key : ∀ (l : List (Int × Int)) (b : Int × Int), (b = (0, 0) ∨ c ≤ b.2) → (l.foldl (bstep c) b = (0, 0) ∨ c ≤ (l.foldl (bstep c) b).2) := by
    intro l
    induction l with
    | nil => intro b hb; exact hb
    | cons r l ih =>
      intro b hb
      rw [List.foldl_cons]
      apply ih
      unfold bstep
      split
      · rename_i h; exact Or.inr h.1
      · exact hb
  exact key l (0, 0) (Or.inl rfl)
def bestF (m c : Int) : Int × Int × Bool := if askB m c && !((bestR c (runs m)).2 == 0) then ((bestR c (runs m)).1, c, true) else (0, 0, false)
theorem bestF_no {m c : Int} (h : askB m c = false) : bestF m c = (0, 0, false) := by simp [bestF, h]
theorem bestF_none {m c : Int} (h : (bestR c (runs m)).2 = 0) : bestF m c = (0, 0, false) := by simp [bestF, h]
theorem bestF_yes {m c : Int} (ha : askB m c = true) (h : (bestR c (runs m)).2 ≠ 0) : bestF m c = ((bestR c (runs m)).1, c, true) := by simp [bestF, ha, h]

set_option maxHeartbeats 2000000 in
theorem implBestFit_any (m c : Int) (w : World) :
    Calls Try.prog 20 #[.int .i64 m, .int .i64 c] w fun e w' => e = .returned (blkRes (bestF m c)) ∧ Fresh w w' := by
  cases ha : askB m c
  · have HP := Lib.hid (bestF_no ha)
    go_enter Try.func20, Try.ntmps20
    go_wp2_with (go_at_call 31; refine (isFit_any _ _ _).mono ?_; rintro e w' ⟨rfl, rfl⟩)
    refine bodyPost_ret (v := blkRes (0, 0, false)) (by simp [results, Try.results20, go_sem, blkRes]) rfl ⟨by rw [HP.out], fnew (frefl _) _⟩
  · obtain ⟨⟨g1, g2⟩, g3, g4⟩ := askB_iff.1 ha
    have HN := Lib.hid (bestF_none (m := m) (c := c))
    have HY := Lib.hid (bestF_yes (m := m) (c := c) ha)
    have hlen := runs_len m
    go_enter Try.func20, Try.ntmps20
    go_wp2_with (go_at_call 31; refine (isFit_any _ _ _).mono ?_; rintro e w' ⟨rfl, rfl⟩)
    refine (freeRuns_any _ _ g1).mono ?_; rintro e w1 ⟨p, cap, rfl, ho, hb⟩
    generalize hL : runs m = L at *
    have HL := Lib.hid hL
    clear hL
    have HB := Lib.hid hb
    have HO := Lib.hid ho
    have hs0 := boxsize hb
    simp only [World.size_alloc] at hs0
    clear hb ho ha
    go_wp2
    go_loopw [18] (fun i wr => ∃ k : Nat, k ≤ L.length ∧ i = .int .i64 k ∧ RowAt wr (w.heap.size + 1) 42 [iv (bestR c (L.take k)).1, iv (bestR c (L.take k)).2] ∧ RowAt wr w.heap.size 42 [iv 0, iv 0] ∧ Own wr (w.heap.size + 2) 42 p (pcs L) ∧ Fresh w wr) (fun i _ => L.length - (intOf i).toNat)
    case atStart =>
      refine ⟨0, Nat.zero_le _, rfl, ?_, ?_, ?_, ?_⟩
      · have := boxrow (cs := [iv 0, iv 0]) HB.out
        simpa [bestR] using this
      · exact ((RowAt.new w 42 [iv 0, iv 0]).alloc _).keep HB.out
      · have := HO.out
        simpa using this
      · exact fstep (fnew (fnew (frefl _) _) _) HB.out
    case round =>
      obtain ⟨k, hk, rfl, hr1, hr0, hown, hf⟩ := hrel
      have R1 := Lib.hid hr1
      have R0 := Lib.hid hr0
      have O := Lib.hid hown
      have HF := Lib.hid hf
      clear HB HO
      rcases hbk : bestR c (L.take k) with ⟨b1, b2⟩
      rw [hbk] at hr1
      have HK := Lib.hid hbk
      clear hbk
      have c0 : wr.cell? ⟨w.heap.size + 1, 0, none⟩ = some (.int .i64 b1) := hr1.cell rfl
      have c1 : wr.cell? ⟨w.heap.size + 1, 1, none⟩ = some (.int .i64 b2) := hr1.cell rfl
      have f0 := hr1.frozen 0
      have f1 := hr1.frozen 1
      have hsz := hr1.lt
      by_cases hlt : k < L.length
      · obtain ⟨b, off, x, y, rfl, hx, hc0, hc1⟩ := hown.prs.at hlt
        have hbl : b < wr.heap.size := World.block_lt_of_cell? wr _ hc0
        have HX := Lib.hid (bestR_step (c := c) hx)
        clear hx hr1 hr0 hown hf
        by_cases h1 : c ≤ y
        · have hd1 : decide (c ≤ y) = true := decide_eq_true h1
          by_cases h2 : b2 = 0
          · have HT := Lib.hid (bstep_take (c := c) (b := (b1, b2)) (r := (x, y)) h1 (Or.inl h2))
            have hd2 : (b2 == 0) = true := beq_iff_eq.2 h2
            clear h2
            go_wp2
            go_roundw
            case rel =>
              have hq : bestR c (L.take (k + 1)) = (x, y) := by rw [HX.out, HK.out, HT.out]
              refine ⟨k + 1, by omega, by go_num, ?_, ?_, ?_, ?_⟩
              · rw [hq]; exact ((R1.out.set 0 (iv x)).set 1 (iv y)).alloc _
              · exact ((R0.out.setOther (by omega) _).setOther (by omega) _).alloc _
              · exact ((O.out.setOther (by omega) _).setOther (by omega) _).keep (fnew (frefl _) _)
              · exact fnew (fset (fset HF.out (by omega) _) (by omega) _) _
            case measure => simp [intOf]; omega
          · have hd2 : (b2 == 0) = false := beq_eq_false_iff_ne.2 h2
            by_cases h3 : y < b2
            · have HT := Lib.hid (bstep_take (c := c) (b := (b1, b2)) (r := (x, y)) h1 (Or.inr h3))
              have hd3 : decide (y < b2) = true := decide_eq_true h3
              go_wp2
              go_roundw
              case rel =>
                have hq : bestR c (L.take (k + 1)) = (x, y) := by rw [HX.out, HK.out, HT.out]
                refine ⟨k + 1, by omega, by go_num, ?_, ?_, ?_, ?_⟩
                · rw [hq]; exact ((R1.out.set 0 (iv x)).set 1 (iv y)).alloc _
                · exact ((R0.out.setOther (by omega) _).setOther (by omega) _).alloc _
                · exact ((O.out.setOther (by omega) _).setOther (by omega) _).keep (fnew (frefl _) _)
                · exact fnew (fset (fset HF.out (by omega) _) (by omega) _) _
              case measure => simp [intOf]; omega
            · have HT := Lib.hid (bstep_skip (c := c) (b := (b1, b2)) (r := (x, y)) (by rintro ⟨_, h | h⟩; exact h2 h; exact h3 h))
              have hd3 : decide (y < b2) = false := decide_eq_false h3
              go_wp2
              go_roundw
              case rel =>
                have hq : bestR c (L.take (k + 1)) = (b1, b2) := by rw [HX.out, HK.out, HT.out]
                refine ⟨k + 1, by omega, by go_num, ?_, R0.out.alloc _, O.out.keep (fnew (frefl _) _), fnew HF.out _⟩
                rw [hq, ← HK.out]; exact R1.out.alloc _
              case measure => simp [intOf]; omega
        · have HT := Lib.hid (bstep_skip (c := c) (b := (b1, b2)) (r := (x, y)) (fun h => h1 h.1))
          have hd1 : decide (c ≤ y) = false := decide_eq_false h1
          go_wp2
          go_roundw
          case rel =>
            have hq : bestR c (L.take (k + 1)) = (b1, b2) := by rw [HX.out, HK.out, HT.out]
            refine ⟨k + 1, by omega, by go_num, ?_, R0.out.alloc _, O.out.keep (fnew (frefl _) _), fnew HF.out _⟩
            rw [hq, ← HK.out]; exact R1.out.alloc _
          case measure => simp [intOf]; omega
      · have hkn : k = L.length := by omega
        have HE : Hid (bestR c L = (b1, b2)) := by have := HK.out; rw [hkn, List.take_length] at this; exact this
        have d0 : wr.cell? ⟨w.heap.size, 0, none⟩ = some (.int .i64 0) := hr0.cell rfl
        have d1 : wr.cell? ⟨w.heap.size, 1, none⟩ = some (.int .i64 0) := hr0.cell rfl
        have e0 := hr0.frozen 0
        have e1 := hr0.frozen 1
        clear hr1 hr0 hown hf
        by_cases h2 : b2 = 0
        · have HP := Lib.hid (HN.out (by rw [HE.out]; exact h2))
          have hd2 : (b2 == 0) = true := beq_iff_eq.2 h2
          clear h2
          subst hkn
          go_wp2
          refine bodyPost_ret (v := blkRes (0, 0, false)) (by simp [results, Try.results20, go_sem, blkRes, d0, d1]) rfl ⟨by rw [HP.out], fset (fset HF.out (Nat.le_refl _) _) (Nat.le_refl _) _⟩
        · have HP := Lib.hid (HY.out (by rw [HE.out]; exact h2))
          have hd2 : (b2 == 0) = false := beq_eq_false_iff_ne.2 h2
          clear h2
          subst hkn
          go_wp2
          refine bodyPost_ret (v := blkRes (b1, c, true)) (by simp [results, Try.results20, go_sem, blkRes, d0, d1]) rfl ⟨by rw [HP.out, HE.out], fset (fset HF.out (Nat.le_refl _) _) (Nat.le_refl _) _⟩
end Go.Proofs.Ytnhjacaiggghnaa
