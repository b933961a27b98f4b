/- Contracts: the positions of blocks of free slots; FirstFit, LastFit and FitPositions on both sides; marks. -/
import Derived.Test.YtmpdljcihiidaaaGreatU1
import Derived.Test.YtmpdljcihiidaaaGreatMk
namespace Go.Proofs.YtmpdljcihiidaaaGreat
open Go.RowKit

/-- A count of slots that is asked for, on a mask. -/
def askB (m c : Int) : Bool := maskB m && inB c 1 24
theorem askB_iff {m c : Int} : askB m c = true ↔ (0 ≤ m ∧ m ≤ 16777215) ∧ 1 ≤ c ∧ c ≤ 24 := by simp [askB, maskB, inB]
/-- A block of free slots may start here. -/
def freeAt (m c s : Int) : Bool := bits BinOp.and IntKind.i64 m (mkF s c) == 0
def fitsTo (m c : Int) (k : Nat) : List Int := ((List.range k).map Int.ofNat).filter (freeAt m c)
theorem fitsTo_yes {m c : Int} {k : Nat} (h : freeAt m c k = true) : fitsTo m c (k + 1) = fitsTo m c k ++ [(k : Int)] := by
  unfold fitsTo; rw [List.range_succ, List.map_append, List.filter_append]; simp [h]
theorem fitsTo_no {m c : Int} {k : Nat} (h : freeAt m c k = false) : fitsTo m c (k + 1) = fitsTo m c k := by
  unfold fitsTo; rw [List.range_succ, List.map_append, List.filter_append]; simp [h]
theorem fitsTo_len (m c : Int) (k : Nat) : (fitsTo m c k).length ≤ k := by
  unfold fitsTo; have := List.length_filter_le (freeAt m c) ((List.range k).map Int.ofNat); simpa using this
/-- All positions. -/
def fits (m c : Int) : List Int := fitsTo m c (25 - c).toNat

set_option maxHeartbeats 1000000 in
theorem l8Fits_any (m c : Int) (w : World) (h1 : 1 ≤ c) (h2 : c ≤ 24) :
    Calls Tryz.prog 145 #[.int .i64 m, .int .i64 c] w (OutInts w (fits m c)) := by
  go_enter Tryz.func145, Tryz.ntmps145
  go_wp2
  go_loopw [5, 6] (fun v i wr => ∃ k : Nat, (k : Int) ≤ 25 - c ∧ i = .int .i64 k ∧ wr.ownsRow w.heap.size 3 1 v (fitsTo m c k).length ((fitsTo m c k).map iv) ∧ Fresh w wr) (fun _ i _ => 25 - (intOf i).toNat)
  case atStart => exact ⟨0, by omega, rfl, World.ownsRow_made w #[] 0 (Nat.le_refl _) (by simp [maxLen]) rfl, fnew (frefl _) _⟩
  case round =>
    obtain ⟨k, hk, rfl, hown, hf⟩ := hrel
    have HF := Lib.hid hf
    have hle := fitsTo_len m c k
    clear hf
    by_cases hlt : (k : Int) + c ≤ 24
    · cases hfr : freeAt m c k
      · have HR := Lib.hid hfr
        have hfr' : (bits BinOp.and IntKind.i64 m (mkF k c) == 0) = false := hfr
        clear hfr
        go_wp2_with (go_at_call 156; refine (l8Bits_any _ _ _ (by omega) (by omega) (by omega)).mono ?_; rintro e w1 ⟨rfl, hb1⟩)
        go_roundw
        case rel => exact ⟨k + 1, by omega, by go_num, by rw [fitsTo_no HR.out]; exact ownsRow_keep hown hb1, fstep HF.out hb1⟩
        case measure => simp [intOf]; omega
      · have HR := Lib.hid hfr
        have hfr' : (bits BinOp.and IntKind.i64 m (mkF k c) == 0) = true := hfr
        clear hfr
        go_wp2_with (first
          | (go_at_call 156; refine (l8Bits_any _ _ _ (by omega) (by omega) (by omega)).mono ?_; rintro e w1 ⟨rfl, hb1⟩; have hown1 := ownsRow_keep hown hb1; clear hown)
          | (at_builtin; refine wpList_app_ints w _ _ (fitsTo m c k) k rfl _ _ rfl rfl hown1 rfl (by omega) (fstep HF.out hb1) ?_; intro v' w2 hown2 hf2))
        have HO := Lib.hid hown2
        have HF2 := Lib.hid hf2
        clear hown2 hf2 hown1
        go_wp2
        go_roundw
        case rel => exact ⟨k + 1, by omega, by go_num, by rw [fitsTo_yes HR.out]; exact HO.out, HF2.out⟩
        case measure => simp [intOf]; omega
    · have hkn : (25 - c).toNat = k := by omega
      have HK := Lib.hid hkn
      clear hkn
      obtain ⟨p, cap, rfl, ho⟩ := own_of_row hown
      have HO := Lib.hid ho
      clear ho hown
      go_wp2
      go_ret
      exact ⟨p, cap, by unfold fits; rw [HK.out]; rfl, by unfold fits; rw [HK.out]; exact HO.out, HF.out⟩


/-- A block and a bool, handed back. -/
def blkRes (r : Int × Int × Bool) : Value := .tuple #[.agg #[.int .i64 r.1, .int .i64 r.2.1], .bool r.2.2]
def pickF (g : List Int → Int) (m c : Int) : Int × Int × Bool := if askB m c then (match fits m c with | [] => (0, 0, false) | x :: l => (g (x :: l), c, true)) else (0, 0, false)
theorem pickF_no {g : List Int → Int} {m c : Int} (h : askB m c = false) : pickF g m c = (0, 0, false) := by simp [pickF, h]
theorem pickF_nil {g : List Int → Int} {m c : Int} (h : fits m c = []) : pickF g m c = (0, 0, false) := by unfold pickF; rw [h]; split <;> rfl
theorem pickF_some {g : List Int → Int} {m c x : Int} {l : List Int} (h : askB m c = true) (hl : fits m c = x :: l) : pickF g m c = (g (x :: l), c, true) := by unfold pickF; rw [hl, if_pos h]
def headI (l : List Int) : Int := l.headD 0
def lastFi (l : List Int) : Int := l.getLastD 0

theorem last_of {x y : Int} {l : List Int} (h : (x :: l)[l.length]? = some y) : lastFi (x :: l) = y := by
  unfold lastFi
  rw [List.getLastD_eq_getLast?, List.getLast?_eq_getElem?]
  simp only [List.length_cons, Nat.add_sub_cancel]
  rw [h]; rfl

end Go.Proofs.YtmpdljcihiidaaaGreat
