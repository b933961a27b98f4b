/- Contracts: the text of a block, both sides. -/
import Derived.Test.YtjhaoonacjebpaaDoorSx
import Derived.BigQuiet
namespace Go.Proofs.YtjhaoonacjebpaaDoor
open Go.RowKit Go.PlainAid

def Sm9 (f c : Int) : Prop := (-999999999 ≤ f ∧ f ≤ 999999999) ∧ (-999999999 ≤ c ∧ c ≤ 999999999)
theorem goodS (a b : Int) (h : goodB a b = true) : (-999999 ≤ a ∧ a ≤ 999999) ∧ (-999999 ≤ b ∧ b ≤ 999999) := by unfold goodB inB at h; simp at h; omega
theorem good9 {f c : Int} (h : goodB f c = true) : Sm9 f c := by unfold goodB inB at h; simp at h; unfold Sm9; omega
set_option maxHeartbeats 1000000 in
set_option maxRecDepth 20000 in
theorem l3Block_any (f c : Int) (w : World) (h : Sm9 f c) : Calls Tryd.prog 12 #[.agg #[.int .i64 f, .int .i64 c]] w fun e w' => e = .returned (.string (ba (blkT f c))) ∧ Fresh w w' := by
  obtain ⟨⟨h1, h2⟩, h3, h4⟩ := h
  obtain ⟨W1, hW1⟩ : ∃ W, W = w.alloc (.cells #[.int .i64 f, .int .i64 c] 26) := ⟨_, rfl⟩
  have hf1 : Fresh w W1 := by rw [hW1]; exact fnew (frefl _) _
  have hr1 : RowAt W1 w.heap.size 26 [.int .i64 f, .int .i64 c] := by rw [hW1]; exact RowAt.new _ _ _
  have c0 := fun xa : After W1 => akeep (hr1.cell (i := 0) rfl) xa
  have c1 := fun xa : After W1 => akeep (hr1.cell (i := 1) rfl) xa
  obtain ⟨t, ht⟩ : ∃ t, t = ba (Lib.itoa f) := ⟨_, rfl⟩
  obtain ⟨u, hu⟩ : ∃ u, u = ba (Lib.itoa c) := ⟨_, rfl⟩
  have hts : t.size ≤ 10 := by rw [ht, ba_size]; exact itoa_len9 h1 h2
  have hus : u.size ≤ 10 := by rw [hu, ba_size]; exact itoa_len9 h3 h4
  have HI : Hid (∀ W, Calls Tryd.prog 19 #[.int .i64 f] W fun e w' => e = .returned (.string t) ∧ Fresh W w') := fun W => by rw [ht]; exact l1Num_any f W h1 h2
  have HJ : Hid (∀ W, Calls Tryd.prog 19 #[.int .i64 c] W fun e w' => e = .returned (.string u) ∧ Fresh W w') := fun W => by rw [hu]; exact l1Num_any c W h3 h4
  have HT := Lib.hid ht
  have HU := Lib.hid hu
  have HW1 := Lib.hid hW1
  have HF1 := Lib.hid hf1
  clear ht hu hW1 hf1 hr1
  go_enter Tryd.func12, Tryd.ntmps12
  go_upto_region 1 with fail
  rw [← HW1.out]
  refine wp_region_after (by kernel_rfl) (by kernel_rfl) ?_
  repeat (go_big_quiet_step ((go_at_call 19; first | (with_reducible exact after_call (HI.out _)) | (with_reducible exact after_call (HJ.out _)))))
  refine wpQuiet_nil ?_
  rintro _ ⟨xa, rfl⟩
  clear c0 c1
  go_wp2
  go_ret
  refine ⟨?_, fstep HF1.out xa.h⟩
  show Ending.returned (.string ((t ++ ba [43]) ++ u)) = _
  rw [HT.out, HU.out, ba_app, ba_app]
  unfold blkT
  rw [List.append_assoc]; rfl
set_option maxHeartbeats 1000000 in
set_option maxRecDepth 20000 in
theorem blockText_any (f c : Int) (w : World) (hT : TabE w) (h : Sm9 f c) : Calls Tryd.prog 14 #[.agg #[.int .i64 f, .int .i64 c]] w fun e w' => e = .returned (.string (ba (blkT f c))) ∧ Fresh w w' := by
  obtain ⟨⟨h1, h2⟩, h3, h4⟩ := h
  obtain ⟨W1, hW1⟩ : ∃ W, W = w.alloc (.cells #[.int .i64 f, .int .i64 c] 26) := ⟨_, rfl⟩
  have hf1 : Fresh w W1 := by rw [hW1]; exact fnew (frefl _) _
  have hr1 : RowAt W1 w.heap.size 26 [.int .i64 f, .int .i64 c] := by rw [hW1]; exact RowAt.new _ _ _
  have c0 := fun xa : After W1 => akeep (hr1.cell (i := 0) rfl) xa
  have c1 := fun xa : After W1 => akeep (hr1.cell (i := 1) rfl) xa
  obtain ⟨t, ht⟩ : ∃ t, t = ba (Lib.itoa f) := ⟨_, rfl⟩
  obtain ⟨u, hu⟩ : ∃ u, u = ba (Lib.itoa c) := ⟨_, rfl⟩
  have hts : t.size ≤ 10 := by rw [ht, ba_size]; exact itoa_len9 h1 h2
  have hus : u.size ≤ 10 := by rw [hu, ba_size]; exact itoa_len9 h3 h4
  have HTT := Lib.hid (hT.keep hf1)
  have HI : Hid (∀ xa : After W1, Calls Tryd.prog 21 #[.int .i64 f] xa.w' fun e w' => e = .returned (.string t) ∧ Fresh xa.w' w') := fun xa => by rw [ht]; exact itoa_any f xa.w' (HTT.out.keep xa.h) h1 h2
  have HJ : Hid (∀ xa : After W1, Calls Tryd.prog 21 #[.int .i64 c] xa.w' fun e w' => e = .returned (.string u) ∧ Fresh xa.w' w') := fun xa => by rw [hu]; exact itoa_any c xa.w' (HTT.out.keep xa.h) h3 h4
  have HT := Lib.hid ht
  have HU := Lib.hid hu
  have HW1 := Lib.hid hW1
  have HF1 := Lib.hid hf1
  clear ht hu hW1 hf1 hr1 hT
  go_enter Tryd.func14, Tryd.ntmps14
  go_upto_region 1 with fail
  rw [← HW1.out]
  refine wp_region_after (by kernel_rfl) (by kernel_rfl) ?_
  repeat (go_big_quiet_step ((go_at_call 21; first | (with_reducible exact after_call (HI.out _)) | (with_reducible exact after_call (HJ.out _)))))
  refine wpQuiet_nil ?_
  rintro _ ⟨xa, rfl⟩
  clear c0 c1
  go_wp2
  go_ret
  refine ⟨?_, fstep HF1.out xa.h⟩
  show Ending.returned (.string ((t ++ ba [43]) ++ u)) = _
  rw [HT.out, HU.out, ba_app, ba_app]
  unfold blkT
  rw [List.append_assoc]; rfl
/-- The text of a block, and whether it is valid. -/
def fmtB (f c : Int) : ByteArray := if goodB f c = true then ba (blkT f c) else ⟨#[]⟩
def OutFb (f c : Int) (w : World) (e : Ending) (w' : World) : Prop := e = .returned (.tuple #[.string (fmtB f c), .bool (goodB f c)]) ∧ Fresh w w'
theorem OutFb.yes {f c : Int} {w w' : World} (h : goodB f c = true) (hf : Fresh w w') : OutFb f c w (.returned (.tuple #[.string (ba (blkT f c)), .bool true])) w' := by unfold OutFb fmtB; rw [h]; exact ⟨rfl, hf⟩
theorem OutFb.no {f c : Int} {w w' : World} (h : goodB f c = false) (hf : Fresh w w') : OutFb f c w (.returned (.tuple #[.string ⟨#[]⟩, .bool false])) w' := by unfold OutFb fmtB; rw [h]; exact ⟨rfl, hf⟩
set_option maxHeartbeats 1000000 in
set_option maxRecDepth 20000 in
theorem specFormatBlock_any (f c : Int) (w : World) : Calls Tryd.prog 5 #[.agg #[.int .i64 f, .int .i64 c]] w (OutFb f c w) := by
  have hf0 : Fresh w (w.alloc (.cells #[.int .i64 f, .int .i64 c] 26)) := fnew (frefl _) _
  have HF0 := Lib.hid hf0
  have HR0 := Lib.hid (RowAt.new w 26 [.int .i64 f, .int .i64 c])
  clear hf0
  cases hg : goodB f c with
  | true =>
    have HS := Lib.hid (good9 hg)
    have HG := Lib.hid hg
    go_enter Tryd.func5, Tryd.ntmps5
    go_wp2_with fail
    refine (l8Good_any _ _ _).mono ?_
    rintro e w1 ⟨rfl, hf1⟩
    have c0 := (HR0.out.keep hf1).cell (i := 0) rfl
    have c1 := (HR0.out.keep hf1).cell (i := 1) rfl
    go_wp2_with fail
    refine (l3Block_any _ _ _ HS.out).mono ?_
    rintro e w2 ⟨rfl, hf2⟩
    go_wp2
    go_ret2
    exact OutFb.yes HG.out (fstep (fstep HF0.out hf1) hf2)
  | false =>
    have HG := Lib.hid hg
    go_enter Tryd.func5, Tryd.ntmps5
    go_wp2_with fail
    refine (l8Good_any _ _ _).mono ?_
    rintro e w1 ⟨rfl, hf1⟩
    go_wp2
    go_ret2
    exact OutFb.no HG.out (fstep HF0.out hf1)
set_option maxHeartbeats 1000000 in
set_option maxRecDepth 20000 in
theorem implFormatBlock_any (f c : Int) (w : World) (hT : TabE w) : Calls Tryd.prog 7 #[.agg #[.int .i64 f, .int .i64 c]] w (OutFb f c w) := by
  have hf0 : Fresh w (w.alloc (.cells #[.int .i64 f, .int .i64 c] 26)) := fnew (frefl _) _
  have HF0 := Lib.hid hf0
  have HR0 := Lib.hid (RowAt.new w 26 [.int .i64 f, .int .i64 c])
  have HT := Lib.hid (hT.keep hf0)
  clear hf0 hT
  cases hg : goodB f c with
  | true =>
    have HS := Lib.hid (good9 hg)
    have HG := Lib.hid hg
    go_enter Tryd.func7, Tryd.ntmps7
    go_wp2_with fail
    refine (implIsValidBlock_any _ _ _).mono ?_
    rintro e w1 ⟨rfl, hf1⟩
    have c0 := (HR0.out.keep hf1).cell (i := 0) rfl
    have c1 := (HR0.out.keep hf1).cell (i := 1) rfl
    go_wp2_with fail
    refine (blockText_any _ _ _ (HT.out.keep hf1) HS.out).mono ?_
    rintro e w2 ⟨rfl, hf2⟩
    go_wp2
    go_ret2
    exact OutFb.yes HG.out (fstep (fstep HF0.out hf1) hf2)
  | false =>
    have HG := Lib.hid hg
    go_enter Tryd.func7, Tryd.ntmps7
    go_wp2_with fail
    refine (implIsValidBlock_any _ _ _).mono ?_
    rintro e w1 ⟨rfl, hf1⟩
    go_wp2
    go_ret2
    exact OutFb.no HG.out (fstep HF0.out hf1)
end Go.Proofs.YtjhaoonacjebpaaDoor
