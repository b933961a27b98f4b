/- Contracts: the text of a block, both sides. -/
import Derived.Test.YtjhaoonacjebpaaGreatDoorSx
import Derived.BigQuiet
namespace Go.Proofs.YtjhaoonacjebpaaGreatDoor
open Go.RowKit Go.PlainAid

def Sm9 (f c : Int) : Prop := (-999999999 ≤ f ∧ f ≤ 999999999) ∧ (-999999999 ≤ c ∧ c ≤ 999999999)
theorem goodS (a b : Int) (h : goodB a b = true) : (-999999 ≤ a ∧ a ≤ 999999) ∧ (-999999 ≤ b ∧ b ≤ 999999) := by unfold goodB inB at h; simp at h; omega
theorem good9 {f c : Int} (h : goodB f c = true) : Sm9 f c := by unfold goodB inB at h; simp at h; unfold Sm9; omega
set_option maxHeartbeats 1000000 in
set_option maxRecDepth 20000 in
theorem l3Block_any (f c : Int) (w : World) (h : Sm9 f c) : Calls Tryz.prog 90 #[.agg #[.int .i64 f, .int .i64 c]] w fun e w' => e = .returned (.string (ba (blkT f c))) ∧ Fresh w w' := by
  obtain ⟨⟨h1, h2⟩, h3, h4⟩ := h
  obtain ⟨W1, hW1⟩ : ∃ W, W = w.alloc (.cells #[.int .i64 f, .int .i64 c] 56) := ⟨_, rfl⟩
  have hf1 : Fresh w W1 := by rw [hW1]; exact fnew (frefl _) _
  have hr1 : RowAt W1 w.heap.size 56 [.int .i64 f, .int .i64 c] := by rw [hW1]; exact RowAt.new _ _ _
  have c0 := fun xa : After W1 => akeep (hr1.cell (i := 0) rfl) xa
  have c1 := fun xa : After W1 => akeep (hr1.cell (i := 1) rfl) xa
  obtain ⟨t, ht⟩ : ∃ t, t = ba (Lib.itoa f) := ⟨_, rfl⟩
  obtain ⟨u, hu⟩ : ∃ u, u = ba (Lib.itoa c) := ⟨_, rfl⟩
  have hts : t.size ≤ 10 := by rw [ht, ba_size]; exact itoa_len9 h1 h2
  have hus : u.size ≤ 10 := by rw [hu, ba_size]; exact itoa_len9 h3 h4
  have HI : Hid (∀ W, Calls Tryz.prog 88 #[.int .i64 f] W fun e w' => e = .returned (.string t) ∧ Fresh W w') := fun W => by rw [ht]; exact l1Num_any f W h1 h2
  have HJ : Hid (∀ W, Calls Tryz.prog 88 #[.int .i64 c] W fun e w' => e = .returned (.string u) ∧ Fresh W w') := fun W => by rw [hu]; exact l1Num_any c W h3 h4
  have HT := Lib.hid ht
  have HU := Lib.hid hu
  have HW1 := Lib.hid hW1
  have HF1 := Lib.hid hf1
  clear ht hu hW1 hf1 hr1
  go_enter Tryz.func90, Tryz.ntmps90
  go_upto_region 1 with fail
  rw [← HW1.out]
  refine wp_region_after (by kernel_rfl) (by kernel_rfl) ?_
  repeat (go_big_quiet_step ((go_at_call 88; first | (with_reducible exact after_call (HI.out _)) | (with_reducible exact after_call (HJ.out _)))))
  refine wpQuiet_nil ?_
  rintro _ ⟨xa, rfl⟩
  clear c0 c1
  go_wp2
  go_ret
  refine ⟨?_, fstep HF1.out xa.h⟩
  show Ending.returned (.string ((t ++ ba [43]) ++ u)) = _
  rw [HT.out, HU.out, ba_app, ba_app]
  unfold blkT
  rw [List.append_assoc]; rfl
set_option maxHeartbeats 1000000 in
set_option maxRecDepth 20000 in
theorem blockText_any (f c : Int) (w : World) (hT : TabE w) (h : Sm9 f c) : Calls Tryz.prog 24 #[.agg #[.int .i64 f, .int .i64 c]] w fun e w' => e = .returned (.string (ba (blkT f c))) ∧ Fresh w w' := by
  obtain ⟨⟨h1, h2⟩, h3, h4⟩ := h
  obtain ⟨W1, hW1⟩ : ∃ W, W = w.alloc (.cells #[.int .i64 f, .int .i64 c] 56) := ⟨_, rfl⟩
  have hf1 : Fresh w W1 := by rw [hW1]; exact fnew (frefl _) _
  have hr1 : RowAt W1 w.heap.size 56 [.int .i64 f, .int .i64 c] := by rw [hW1]; exact RowAt.new _ _ _
  have c0 := fun xa : After W1 => akeep (hr1.cell (i := 0) rfl) xa
  have c1 := fun xa : After W1 => akeep (hr1.cell (i := 1) rfl) xa
  obtain ⟨t, ht⟩ : ∃ t, t = ba (Lib.itoa f) := ⟨_, rfl⟩
  obtain ⟨u, hu⟩ : ∃ u, u = ba (Lib.itoa c) := ⟨_, rfl⟩
  have hts : t.size ≤ 10 := by rw [ht, ba_size]; exact itoa_len9 h1 h2
  have hus : u.size ≤ 10 := by rw [hu, ba_size]; exact itoa_len9 h3 h4
  have HTT := Lib.hid (hT.keep hf1)
  have HI : Hid (∀ xa : After W1, Calls Tryz.prog 22 #[.int .i64 f] xa.w' fun e w' => e = .returned (.string t) ∧ Fresh xa.w' w') := fun xa => by rw [ht]; exact itoa_any f xa.w' (HTT.out.keep xa.h) h1 h2
  have HJ : Hid (∀ xa : After W1, Calls Tryz.prog 22 #[.int .i64 c] xa.w' fun e w' => e = .returned (.string u) ∧ Fresh xa.w' w') := fun xa => by rw [hu]; exact itoa_any c xa.w' (HTT.out.keep xa.h) h3 h4
  have HT := Lib.hid ht
  have HU := Lib.hid hu
  have HW1 := Lib.hid hW1
  have HF1 := Lib.hid hf1
  clear ht hu hW1 hf1 hr1 hT
  go_enter Tryz.func24, Tryz.ntmps24
  go_upto_region 1 with fail
  rw [← HW1.out]
  refine wp_region_after (by kernel_rfl) (by kernel_rfl) ?_
  repeat (go_big_quiet_step ((go_at_call 22; first | (with_reducible exact after_call (HI.out _)) | (with_reducible exact after_call (HJ.out _)))))
  refine wpQuiet_nil ?_
  rintro _ ⟨xa, rfl⟩
  clear c0 c1
  go_wp2
  go_ret
  refine ⟨?_, fstep HF1.out xa.h⟩
  show Ending.returned (.string ((t ++ ba [43]) ++ u)) = _
  rw [HT.out, HU.out, ba_app, ba_app]
  unfold blkT
  rw [List.append_assoc]; rfl
/-- The text of a block, and whether it is valid. -/
def fmtB (f c : Int) : ByteArray := if goodB f c = true then ba (blkT f c) else ⟨#[]⟩
def OutFb (f c : Int) (w : World) (e : Ending) (w' : World) : Prop := e = .returned (.tuple #[.string (fmtB f c), .bool (goodB f c)]) ∧ Fresh w w'
theorem OutFb.yes {f c : Int} {w w' : World} (h : goodB f c = true) (hf : Fresh w w') : OutFb f c w (.returned (.tuple #[.string (ba (blkT f c)), .bool true])) w' := by unfold OutFb fmtB; rw [h]; exact ⟨rfl, hf⟩
theorem OutFb.no {f c : Int} {w w' : World} (h : goodB f c = false) (hf : Fresh w w') : OutFb f c w (.returned (.tuple #[.string ⟨#[]⟩, .bool false])) w' := by unfold OutFb fmtB; rw [h]; exact ⟨rfl, hf⟩
end Go.Proofs.YtjhaoonacjebpaaGreatDoor
