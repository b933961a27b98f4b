/- Contracts: the positions of blocks of free slots; FirstFit, LastFit and FitPositions on both sides; marks. -/
import Derived.Test.YtnhjacaiggghnaaU1
import Derived.Test.YtnhjacaiggghnaaMk
namespace Go.Proofs.Ytnhjacaiggghnaa
open Go.RowKit

/-- A count of slots that is asked for, on a mask. -/
def askB (m c : Int) : Bool := maskB m && inB c 1 24
theorem askB_iff {m c : Int} : askB m c = true ↔ (0 ≤ m ∧ m ≤ 16777215) ∧ 1 ≤ c ∧ c ≤ 24 := by simp [askB, maskB, inB]
set_option maxHeartbeats 400000 in
theorem l8Asked_any (m c : Int) (w : World) :
    Calls Try.prog 33 #[.int .i64 m, .int .i64 c] w fun e w' => e = .returned (.bool (askB m c)) ∧ w = w' := by
  cases hm : maskB m
  all_goals
    have HA : Hid (askB m c = (maskB m && inB c 1 24)) := rfl
    go_enter Try.func33, Try.ntmps33
    go_wp2_with (first | (go_at_call 44; refine (l8Mask_any _ _).mono ?_; rintro e w' ⟨rfl, rfl⟩) | (go_at_call 28; refine (l1In_any _ _ _ _).mono ?_; rintro e w' ⟨rfl, rfl⟩))
    go_ret
    exact ⟨by rw [HA.out, hm]; rfl, rfl⟩
set_option maxHeartbeats 400000 in
theorem isFit_any (m c : Int) (w : World) :
    Calls Try.prog 31 #[.int .i64 m, .int .i64 c] w fun e w' => e = .returned (.bool (askB m c)) ∧ w = w' := by
  cases hm : maskB m
  all_goals
    have HA : Hid (askB m c = (maskB m && inB c 1 24)) := rfl
    go_enter Try.func31, Try.ntmps31
    go_wp2_with (first | (go_at_call 35; refine (isMask_any _ _).mono ?_; rintro e w' ⟨rfl, rfl⟩) | (go_at_call 26; refine (within_any _ _ _ _).mono ?_; rintro e w' ⟨rfl, rfl⟩))
    go_ret
    exact ⟨by rw [HA.out, hm]; rfl, rfl⟩

/-- A block of free slots may start here. -/
def freeAt (m c s : Int) : Bool := bits BinOp.and IntKind.i64 m (mkF s c) == 0
def fitsTo (m c : Int) (k : Nat) : List Int := ((List.range k).map Int.ofNat).filter (freeAt m c)
theorem fitsTo_yes {m c : Int} {k : Nat} (h : freeAt m c k = true) : fitsTo m c (k + 1) = fitsTo m c k ++ [(k : Int)] := by
  unfold fitsTo; rw [List.range_succ, List.map_append, List.filter_append]; simp [h]
theorem fitsTo_no {m c : Int} {k : Nat} (h : freeAt m c k = false) : fitsTo m c (k + 1) = fitsTo m c k := by
  unfold fitsTo; rw [List.range_succ, List.map_append, List.filter_append]; simp [h]
theorem fitsTo_len (m c : Int) (k : Nat) : (fitsTo m c k).length ≤ k := by
  unfold fitsTo; have := List.length_filter_le (freeAt m c) ((List.range k).map Int.ofNat); simpa using this
/-- All positions. -/
def fits (m c : Int) : List Int := fitsTo m c (25 - c).toNat

set_option maxHeartbeats 1000000 in
theorem positions_any (m c : Int) (w : World) (h1 : 1 ≤ c) (h2 : c ≤ 24) :
    Calls Try.prog 32 #[.int .i64 m, .int .i64 c] w (OutInts w (fits m c)) := by
  go_enter Try.func32, Try.ntmps32
  go_wp2
  go_loopw [5, 6] (fun v i wr => ∃ k : Nat, (k : Int) ≤ 25 - c ∧ i = .int .i64 k ∧ wr.ownsRow w.heap.size 3 1 v (fitsTo m c k).length ((fitsTo m c k).map iv) ∧ Fresh w wr) (fun _ i _ => 25 - (intOf i).toNat)
  case atStart => exact ⟨0, by omega, rfl, World.ownsRow_made w #[] 0 (Nat.le_refl _) (by simp [maxLen]) rfl, fnew (frefl _) _⟩
  case round =>
    obtain ⟨k, hk, rfl, hown, hf⟩ := hrel
    have HF := Lib.hid hf
    have hle := fitsTo_len m c k
    clear hf
    by_cases hlt : (k : Int) + c ≤ 24
    · cases hfr : freeAt m c k
      · have HR := Lib.hid hfr
        have hfr' : (bits BinOp.and IntKind.i64 m (mkF k c) == 0) = false := hfr
        clear hfr
        go_wp2_with (go_at_call 38; refine (maskOf_any _ _ _ (by omega) (by omega) (by omega)).mono ?_; rintro e w1 ⟨rfl, hb1⟩)
        go_roundw
        case rel => exact ⟨k + 1, by omega, by go_num, by rw [fitsTo_no HR.out]; exact ownsRow_keep hown hb1, fstep HF.out hb1⟩
        case measure => simp [intOf]; omega
      · have HR := Lib.hid hfr
        have hfr' : (bits BinOp.and IntKind.i64 m (mkF k c) == 0) = true := hfr
        clear hfr
        go_wp2_with (first
          | (go_at_call 38; refine (maskOf_any _ _ _ (by omega) (by omega) (by omega)).mono ?_; rintro e w1 ⟨rfl, hb1⟩; have hown1 := ownsRow_keep hown hb1; clear hown)
          | (at_builtin; refine wpList_app_ints w _ _ (fitsTo m c k) k rfl _ _ rfl rfl hown1 rfl (by omega) (fstep HF.out hb1) ?_; intro v' w2 hown2 hf2))
        have HO := Lib.hid hown2
        have HF2 := Lib.hid hf2
        clear hown2 hf2 hown1
        go_wp2
        go_roundw
        case rel => exact ⟨k + 1, by omega, by go_num, by rw [fitsTo_yes HR.out]; exact HO.out, HF2.out⟩
        case measure => simp [intOf]; omega
    · have hkn : (25 - c).toNat = k := by omega
      have HK := Lib.hid hkn
      clear hkn
      obtain ⟨p, cap, rfl, ho⟩ := own_of_row hown
      have HO := Lib.hid ho
      clear ho hown
      go_wp2
      go_ret
      exact ⟨p, cap, by unfold fits; rw [HK.out]; rfl, by unfold fits; rw [HK.out]; exact HO.out, HF.out⟩
set_option maxHeartbeats 1000000 in
theorem l8Fits_any (m c : Int) (w : World) (h1 : 1 ≤ c) (h2 : c ≤ 24) :
    Calls Try.prog 34 #[.int .i64 m, .int .i64 c] w (OutInts w (fits m c)) := by
  go_enter Try.func34, Try.ntmps34
  go_wp2
  go_loopw [5, 6] (fun v i wr => ∃ k : Nat, (k : Int) ≤ 25 - c ∧ i = .int .i64 k ∧ wr.ownsRow w.heap.size 3 1 v (fitsTo m c k).length ((fitsTo m c k).map iv) ∧ Fresh w wr) (fun _ i _ => 25 - (intOf i).toNat)
  case atStart => exact ⟨0, by omega, rfl, World.ownsRow_made w #[] 0 (Nat.le_refl _) (by simp [maxLen]) rfl, fnew (frefl _) _⟩
  case round =>
    obtain ⟨k, hk, rfl, hown, hf⟩ := hrel
    have HF := Lib.hid hf
    have hle := fitsTo_len m c k
    clear hf
    by_cases hlt : (k : Int) + c ≤ 24
    · cases hfr : freeAt m c k
      · have HR := Lib.hid hfr
        have hfr' : (bits BinOp.and IntKind.i64 m (mkF k c) == 0) = false := hfr
        clear hfr
        go_wp2_with (go_at_call 45; refine (l8Bits_any _ _ _ (by omega) (by omega) (by omega)).mono ?_; rintro e w1 ⟨rfl, hb1⟩)
        go_roundw
        case rel => exact ⟨k + 1, by omega, by go_num, by rw [fitsTo_no HR.out]; exact ownsRow_keep hown hb1, fstep HF.out hb1⟩
        case measure => simp [intOf]; omega
      · have HR := Lib.hid hfr
        have hfr' : (bits BinOp.and IntKind.i64 m (mkF k c) == 0) = true := hfr
        clear hfr
        go_wp2_with (first
          | (go_at_call 45; refine (l8Bits_any _ _ _ (by omega) (by omega) (by omega)).mono ?_; rintro e w1 ⟨rfl, hb1⟩; have hown1 := ownsRow_keep hown hb1; clear hown)
          | (at_builtin; refine wpList_app_ints w _ _ (fitsTo m c k) k rfl _ _ rfl rfl hown1 rfl (by omega) (fstep HF.out hb1) ?_; intro v' w2 hown2 hf2))
        have HO := Lib.hid hown2
        have HF2 := Lib.hid hf2
        clear hown2 hf2 hown1
        go_wp2
        go_roundw
        case rel => exact ⟨k + 1, by omega, by go_num, by rw [fitsTo_yes HR.out]; exact HO.out, HF2.out⟩
        case measure => simp [intOf]; omega
    · have hkn : (25 - c).toNat = k := by omega
      have HK := Lib.hid hkn
      clear hkn
      obtain ⟨p, cap, rfl, ho⟩ := own_of_row hown
      have HO := Lib.hid ho
      clear ho hown
      go_wp2
      go_ret
      exact ⟨p, cap, by unfold fits; rw [HK.out]; rfl, by unfold fits; rw [HK.out]; exact HO.out, HF.out⟩


/-- A block and a bool, handed back. -/
def blkRes (r : Int × Int × Bool) : Value := .tuple #[.agg #[.int .i64 r.1, .int .i64 r.2.1], .bool r.2.2]
def pickF (g : List Int → Int) (m c : Int) : Int × Int × Bool := if askB m c then (match fits m c with | [] => (0, 0, false) | x :: l => (g (x :: l), c, true)) else (0, 0, false)
theorem pickF_no {g : List Int → Int} {m c : Int} (h : askB m c = false) : pickF g m c = (0, 0, false) := by simp [pickF, h]
theorem pickF_nil {g : List Int → Int} {m c : Int} (h : fits m c = []) : pickF g m c = (0, 0, false) := by unfold pickF; rw [h]; split <;> rfl
theorem pickF_some {g : List Int → Int} {m c x : Int} {l : List Int} (h : askB m c = true) (hl : fits m c = x :: l) : pickF g m c = (g (x :: l), c, true) := by unfold pickF; rw [hl, if_pos h]
def headI (l : List Int) : Int := l.headD 0
def lastFi (l : List Int) : Int := l.getLastD 0

theorem last_of {x y : Int} {l : List Int} (h : (x :: l)[l.length]? = some y) : lastFi (x :: l) = y := by
  unfold lastFi
  rw [List.getLastD_eq_getLast?, List.getLast?_eq_getElem?]
  simp only [List.length_cons, Nat.add_sub_cancel]
  rw [h]; rfl

set_option maxHeartbeats 1000000 in
theorem implFirstFit_any (m c : Int) (w : World) :
    Calls Try.prog 18 #[.int .i64 m, .int .i64 c] w fun e w' => e = .returned (blkRes (pickF headI m c)) ∧ Fresh w w' := by
  cases ha : askB m c
  · have HP := Lib.hid (pickF_no (g := headI) ha)
    go_enter Try.func18, Try.ntmps18
    go_wp2_with (go_at_call 31; refine (isFit_any _ _ _).mono ?_; rintro e w' ⟨rfl, rfl⟩)
    refine bodyPost_ret (v := blkRes (0, 0, false)) (by simp [results, Try.results18, go_sem, blkRes]) rfl ⟨by rw [HP.out], fnew (frefl _) _⟩
  · obtain ⟨⟨g1, g2⟩, g3, g4⟩ := askB_iff.1 ha
    have HA := Lib.hid ha
    rcases hL : fits m c with _ | ⟨x, l⟩
    · have HP := Lib.hid (pickF_nil (g := headI) hL)
      have HL := Lib.hid hL
      clear hL
      go_enter Try.func18, Try.ntmps18
      go_wp2_with (go_at_call 31; refine (isFit_any _ _ _).mono ?_; rintro e w' ⟨rfl, rfl⟩)
      refine (positions_any _ _ _ g3 g4).mono ?_; rintro e w1 ⟨p, cap, rfl, ho, hb⟩
      rw [HL.out] at ho ⊢
      have c0 : w1.cell? ⟨w.heap.size, 0, none⟩ = some (.int .i64 0) := box hb 0 rfl
      have c1 : w1.cell? ⟨w.heap.size, 1, none⟩ = some (.int .i64 0) := box hb 1 rfl
      have f0 := boxf hb 0
      have f1 := boxf hb 1
      go_wp2
      refine bodyPost_ret (v := blkRes (0, 0, false)) (by simp [results, Try.results18, go_sem, blkRes, c0, c1]) rfl ⟨by rw [HP.out], fset (fset (fstep (fnew (frefl _) _) hb) (Nat.le_refl _) _) (Nat.le_refl _) _⟩
    · have HP := Lib.hid (pickF_some (g := headI) HA.out hL)
      have hlen := congrArg List.length hL
      simp only [List.length_cons] at hlen
      have hbd : l.length + 1 ≤ 25 := by rw [← hlen]; unfold fits; have := fitsTo_len m c (25 - c).toNat; omega
      clear hlen
      have HL := Lib.hid hL
      clear hL
      go_enter Try.func18, Try.ntmps18
      go_wp2_with (go_at_call 31; refine (isFit_any _ _ _).mono ?_; rintro e w' ⟨rfl, rfl⟩)
      refine (positions_any _ _ _ g3 g4).mono ?_; rintro e w1 ⟨p, cap, rfl, ho, hb⟩
      rw [HL.out] at ho ⊢
      obtain ⟨b, off, rfl, hc⟩ := Own.ints (L := x :: l) ho |>.at0
      have c0 : w1.cell? ⟨w.heap.size, 0, none⟩ = some (.int .i64 0) := box hb 0 rfl
      have c1 : w1.cell? ⟨w.heap.size, 1, none⟩ = some (.int .i64 0) := box hb 1 rfl
      have f0 := boxf hb 0
      have f1 := boxf hb 1
      go_wp2
      refine bodyPost_ret (v := blkRes (x, c, true)) (by simp [results, Try.results18, go_sem, blkRes, c0, c1]) rfl ⟨by rw [HP.out]; rfl, fset (fset (fstep (fnew (frefl _) _) hb) (Nat.le_refl _) _) (Nat.le_refl _) _⟩

set_option maxHeartbeats 1000000 in
theorem implLastFit_any (m c : Int) (w : World) :
    Calls Try.prog 19 #[.int .i64 m, .int .i64 c] w fun e w' => e = .returned (blkRes (pickF lastFi m c)) ∧ Fresh w w' := by
  cases ha : askB m c
  · have HP := Lib.hid (pickF_no (g := lastFi) ha)
    go_enter Try.func19, Try.ntmps19
    go_wp2_with (go_at_call 31; refine (isFit_any _ _ _).mono ?_; rintro e w' ⟨rfl, rfl⟩)
    refine bodyPost_ret (v := blkRes (0, 0, false)) (by simp [results, Try.results19, go_sem, blkRes]) rfl ⟨by rw [HP.out], fnew (frefl _) _⟩
  · obtain ⟨⟨g1, g2⟩, g3, g4⟩ := askB_iff.1 ha
    have HA := Lib.hid ha
    rcases hL : fits m c with _ | ⟨x, l⟩
    · have HP := Lib.hid (pickF_nil (g := lastFi) hL)
      have HL := Lib.hid hL
      clear hL
      go_enter Try.func19, Try.ntmps19
      go_wp2_with (go_at_call 31; refine (isFit_any _ _ _).mono ?_; rintro e w' ⟨rfl, rfl⟩)
      refine (positions_any _ _ _ g3 g4).mono ?_; rintro e w1 ⟨p, cap, rfl, ho, hb⟩
      rw [HL.out] at ho ⊢
      have c0 : w1.cell? ⟨w.heap.size, 0, none⟩ = some (.int .i64 0) := box hb 0 rfl
      have c1 : w1.cell? ⟨w.heap.size, 1, none⟩ = some (.int .i64 0) := box hb 1 rfl
      have f0 := boxf hb 0
      have f1 := boxf hb 1
      go_wp2
      refine bodyPost_ret (v := blkRes (0, 0, false)) (by simp [results, Try.results19, go_sem, blkRes, c0, c1]) rfl ⟨by rw [HP.out], fset (fset (fstep (fnew (frefl _) _) hb) (Nat.le_refl _) _) (Nat.le_refl _) _⟩
    · have HP := Lib.hid (pickF_some (g := lastFi) HA.out hL)
      have hlen := congrArg List.length hL
      simp only [List.length_cons] at hlen
      have hbd : l.length + 1 ≤ 25 := by rw [← hlen]; unfold fits; have := fitsTo_len m c (25 - c).toNat; omega
      clear hlen
      have HL := Lib.hid hL
      clear hL
      go_enter Try.func19, Try.ntmps19
      go_wp2_with (go_at_call 31; refine (isFit_any _ _ _).mono ?_; rintro e w' ⟨rfl, rfl⟩)
      refine (positions_any _ _ _ g3 g4).mono ?_; rintro e w1 ⟨p, cap, rfl, ho, hb⟩
      rw [HL.out] at ho ⊢
      obtain ⟨b, off, y, rfl, hy, hc⟩ := Own.ints (L := x :: l) ho |>.at (k := l.length) (by simp)
      have HY := Lib.hid hy
      clear hy
      have c0 : w1.cell? ⟨w.heap.size, 0, none⟩ = some (.int .i64 0) := box hb 0 rfl
      have c1 : w1.cell? ⟨w.heap.size, 1, none⟩ = some (.int .i64 0) := box hb 1 rfl
      have f0 := boxf hb 0
      have f1 := boxf hb 1
      go_wp2
      refine bodyPost_ret (v := blkRes (y, c, true)) (by simp [results, Try.results19, go_sem, blkRes, c0, c1]) rfl ⟨by rw [HP.out, last_of HY.out], fset (fset (fstep (fnew (frefl _) _) hb) (Nat.le_refl _) _) (Nat.le_refl _) _⟩

end Go.Proofs.Ytnhjacaiggghnaa
