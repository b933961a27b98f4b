/- The walks of the laws FnExactFormatBlock and FnExactParseBlock. -/
import Derived.Test.YtjhaoonacjebpaaDoorBx2
namespace Go.Proofs.YtjhaoonacjebpaaDoor
open Go.RowKit Go.PlainAid

set_option maxHeartbeats 1000000 in
set_option maxRecDepth 20000 in
theorem law_FormatBlock (f c : Int) (w : World) (hT : TabE w) :
    Calls Tryd.prog 3 #[.agg #[.int .i64 f, .int .i64 c]] w fun e w' => e = .returned (.bool true) ∧ Fresh w w' := by
  obtain ⟨s, hs⟩ : ∃ s, s = fmtB f c := ⟨_, rfl⟩
  obtain ⟨k, hk⟩ : ∃ k, k = goodB f c := ⟨_, rfl⟩
  have HI : Hid (∀ W, TabE W → Calls Tryd.prog 7 #[.agg #[.int .i64 f, .int .i64 c]] W fun e w' => e = .returned (.tuple #[.string s, .bool k]) ∧ Fresh W w') := fun W hW => by rw [hs, hk]; exact implFormatBlock_any f c W hW
  have HS : Hid (∀ W, Calls Tryd.prog 5 #[.agg #[.int .i64 f, .int .i64 c]] W fun e w' => e = .returned (.tuple #[.string s, .bool k]) ∧ Fresh W w') := fun W => by rw [hs, hk]; exact specFormatBlock_any f c W
  have hf0 : Fresh w (w.alloc (.cells #[.int .i64 f, .int .i64 c] 23)) := fnew (frefl _) _
  have HF0 := Lib.hid hf0
  have HR0 := Lib.hid (RowAt.new w 23 [.int .i64 f, .int .i64 c])
  have HT := Lib.hid (hT.keep hf0)
  clear hs hk hf0 hT
  go_enter Tryd.func3, Tryd.ntmps3
  go_wp2_with fail
  refine (toBlock_any _ _ _).mono ?_
  rintro e w1 ⟨rfl, hf1⟩
  go_wp2_with fail
  refine (HS.out _).mono ?_
  rintro e w2 ⟨rfl, hf2⟩
  have hf := fstep hf1 hf2
  have c0 := (HR0.out.keep hf).cell (i := 0) rfl
  have c1 := (HR0.out.keep hf).cell (i := 1) rfl
  go_wp2_with fail
  refine (toBlock_any _ _ _).mono ?_
  rintro e w3 ⟨rfl, hf3⟩
  have HF3 := Lib.hid (fstep hf hf3)
  clear hf1 hf2 hf c0 c1 hf3
  go_wp2_with fail
  refine (HI.out _ (HT.out.keep HF3.out)).mono ?_
  rintro e w4 ⟨rfl, hf4⟩
  have hd : (s.toList == s.toList) = true := by simp
  have HF4 := Lib.hid (fstep HF3.out hf4)
  clear hf4
  cases k with
  | true =>
    go_wp2
    go_ret
    exact ⟨rfl, fstep HF0.out HF4.out⟩
  | false =>
    go_wp2
    go_ret
    exact ⟨rfl, fstep HF0.out HF4.out⟩
set_option maxHeartbeats 1000000 in
theorem eqBlock_same (a b : Int) (w : World) : Calls Tryd.prog 10 #[.agg #[.int .i64 a, .int .i64 b], .agg #[.int .i64 a, .int .i64 b]] w fun e w' => e = .returned (.bool true) ∧ Fresh w w' := by
  go_enter Tryd.func10, Tryd.ntmps10
  go_wp2
  go_ret
  exact ⟨rfl, fnew (fnew (frefl _) _) _⟩
set_option maxHeartbeats 1000000 in
set_option maxRecDepth 20000 in
theorem law_ParseBlock (s : ByteArray) (w : World) (hT : TabE w) (hS : SynE w) (hM : MaxE w) :
    Calls Tryd.prog 4 #[.string s] w fun e w' => e = .returned (.bool true) ∧ Fresh w w' := by
  by_cases hbig : 1048576 < s.size
  · have hz : (1048576 : Int) < s.size := by omega
    clear hT hS hM
    go_enter Tryd.func4, Tryd.ntmps4
    go_wp2
    go_ret
    exact ⟨rfl, frefl _⟩
  · have hz : ¬ (1048576 : Int) < s.size := by omega
    have hs : s.size ≤ 1048576 := by omega
    have HSP := Lib.hid (specParseBlock_any s w hs)
    have HIP : Hid (∀ W, TabE W → SynE W → MaxE W → Calls Tryd.prog 9 #[.string s] W (OutPb s W)) := fun W => implParseBlock_any s W hs
    have HT := Lib.hid hT
    have HS := Lib.hid hS
    have HM := Lib.hid hM
    clear hT hS hM hbig
    go_enter Tryd.func4, Tryd.ntmps4
    go_wp2_with fail
    refine (HSP.out).mono ?_
    rintro e w1 ⟨rfl, hf1⟩
    obtain ⟨r, hr⟩ : ∃ r, r = pblkF goodB (bs s) := ⟨_, rfl⟩
    obtain ⟨a, ha⟩ : ∃ a, a = (r.getD (0, 0)).1 := ⟨_, rfl⟩
    obtain ⟨b, hb⟩ : ∃ b, b = (r.getD (0, 0)).2 := ⟨_, rfl⟩
    obtain ⟨k, hk⟩ : ∃ k, k = r.isSome := ⟨_, rfl⟩
    rw [← hr, ← ha, ← hb, ← hk]
    have HIQ : Hid (∀ W, TabE W → SynE W → MaxE W → Calls Tryd.prog 9 #[.string s] W fun e w' => e = .returned (.tuple #[.agg #[.int .i64 a, .int .i64 b], .bool k]) ∧ Fresh W w') := fun W h1 h2 h3 => (HIP.out W h1 h2 h3).mono fun e w' ⟨he, hf⟩ => ⟨by rw [he, ← hr, ← ha, ← hb, ← hk], hf⟩
    clear hr ha hb hk HSP HIP
    obtain ⟨W2, hW2⟩ : ∃ W, W = w1.alloc (.cells #[.int .i64 a, .int .i64 b] 26) := ⟨_, rfl⟩
    obtain ⟨q2, hq2⟩ : ∃ q, q = w1.heap.size := ⟨_, rfl⟩
    have hf2 : Fresh w1 W2 := by rw [hW2]; exact fnew (frefl _) _
    have HR2 : Hid (RowAt W2 q2 26 [.int .i64 a, .int .i64 b]) := by rw [hW2, hq2]; exact RowAt.new _ _ _
    have HF2 := Lib.hid (fstep hf1 hf2)
    clear hf1 hf2
    go_wp2_with fail
    rw [← hW2, ← hq2]
    refine (HIQ.out _ (HT.out.keep HF2.out) (HS.out.keep HF2.out) (HM.out.keep HF2.out)).mono ?_
    rintro e w3 ⟨rfl, hf3⟩
    clear hW2 hq2
    have hfn : Fresh w3 (w3.alloc (.cells #[.int .i64 a, .int .i64 b] 26)) := fnew (frefl _) _
    have c0 := (HR2.out.keep (fstep hf3 hfn)).cell (i := 0) rfl
    have c1 := (HR2.out.keep (fstep hf3 hfn)).cell (i := 1) rfl
    have HF3 := Lib.hid (fstep HF2.out (fstep hf3 hfn))
    clear hf3 hfn
    cases k with
    | true =>
      go_wp2_with (go_at_call 10; refine (eqBlock_same _ _ _).mono ?_; rintro e w5 ⟨rfl, hf5⟩)
      go_ret
      exact ⟨rfl, fstep HF3.out hf5⟩
    | false =>
      go_wp2_with (go_at_call 10; refine (eqBlock_same _ _ _).mono ?_; rintro e w5 ⟨rfl, hf5⟩)
      go_ret
      exact ⟨rfl, fstep HF3.out hf5⟩
end Go.Proofs.YtjhaoonacjebpaaDoor
