/- Contracts: BlockMask on both sides; the walks of the laws FnExactBlockMask and FnExactUnionMasks. -/
import Derived.Test.YtnhjacaiggghnaaU1
import Derived.Test.YtnhjacaiggghnaaUnion
namespace Go.Proofs.Ytnhjacaiggghnaa
open Go.RowKit

def bmF (f c : Int) : Int × Bool := if goodB f c then (mkF f c, true) else (0, false)
theorem bmF_good {f c : Int} (h : goodB f c = true) : bmF f c = (mkF f c, true) := by simp [bmF, h]
theorem bmF_bad {f c : Int} (h : goodB f c = false) : bmF f c = (0, false) := by simp [bmF, h]

set_option maxHeartbeats 400000 in
theorem implBlockMask_any (f c : Int) (w : World) :
    Calls Try.prog 17 #[.agg #[.int .i64 f, .int .i64 c]] w fun e w' => e = .returned (.tuple #[.int .i64 (bmF f c).1, .bool (bmF f c).2]) ∧ Fresh w w' := by
  cases hg : goodB f c
  · have HG := Lib.hid (bmF_bad hg)
    go_enter Try.func17, Try.ntmps17
    go_wp2_with (go_at_call 37; refine (implIsValidBlock_any _ _ _).mono ?_; rintro e w1 ⟨rfl, hb1⟩)
    go_ret2
    exact ⟨by rw [HG.out]; rfl, fstep (fnew (frefl _) _) hb1⟩
  · have HG := Lib.hid (bmF_good hg)
    obtain ⟨g1, g2, g3⟩ := goodB_iff.1 hg
    go_enter Try.func17, Try.ntmps17
    go_wp2_with fail
    refine (implIsValidBlock_any _ _ _).mono ?_; rintro e w1 ⟨rfl, hb1⟩
    have c0 := box hb1 0 rfl
    have c1 := box hb1 1 rfl
    go_wp2_with fail
    refine (maskOf_any _ _ _ g1 g2 g3).mono ?_; rintro e w2 ⟨rfl, hb2⟩
    go_wp2
    go_ret2
    exact ⟨by rw [HG.out]; rfl, fstep (fnew (frefl _) _) (fstep hb1 hb2)⟩

end Go.Proofs.Ytnhjacaiggghnaa
