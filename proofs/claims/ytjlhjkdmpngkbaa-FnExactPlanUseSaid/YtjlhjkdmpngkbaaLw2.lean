/- Contracts: colliding lights, both sides. -/
import Derived.Test.YtjlhjkdmpngkbaaLw
namespace Go.Proofs.Ytjlhjkdmpngkbaa
open Go.RowKit Go.PlainAid

set_option maxHeartbeats 4000000 in
theorem collide_any (x y : LL) (w : World) (hx : goodB x.f x.c = true) (hy : goodB y.f y.c = true) (hI : Ints w x.r.q x.r.fibs) (hJ : Ints w y.r.q y.r.fibs) (hn : x.r.fibs.length ≤ 1048576) (hm : y.r.fibs.length ≤ 1048576) :
    Calls Try.prog 104 #[llV x, llV y] w fun e w' => e = .returned (.bool (colB x.val y.val)) ∧ Fresh w w' := by
  obtain ⟨id, ⟨s, q, cap, l⟩, bf, bc⟩ := x
  obtain ⟨id', ⟨s', q', cap', l'⟩, bf', bc'⟩ := y
  simp only at hx hy hI hJ hn hm ⊢
  obtain ⟨g1, g2, g3⟩ := goodB_iff.1 hx
  obtain ⟨g1', g2', g3'⟩ := goodB_iff.1 hy
  obtain ⟨W2, hW2, hsz2, hf2, r1, r2⟩ := two_rows w [.int .i64 id, .int .i64 s, .slice q l.length cap, .int .i64 bf, .int .i64 bc] [.int .i64 id', .int .i64 s', .slice q' l'.length cap', .int .i64 bf', .int .i64 bc'] 142 142
  have HW2 := Lib.hid hW2
  have HF2 := Lib.hid hf2
  have HI := Lib.hid (hI.keep hf2)
  have HJ := Lib.hid (hJ.keep hf2)
  have a2 := r1.cell (i := 2) rfl
  have a3 := r1.cell (i := 3) rfl
  have a4 := r1.cell (i := 4) rfl
  have b2 := r2.cell (i := 2) rfl
  have b3 := r2.cell (i := 3) rfl
  have b4 := r2.cell (i := 4) rfl
  have HS : Hid (Fresh W2 W2 ∧ W2.cell? ⟨w.heap.size, 2, none⟩ = some (.slice q l.length cap) ∧ W2.cell? ⟨w.heap.size, 3, none⟩ = some (.int .i64 bf) ∧ W2.cell? ⟨w.heap.size, 4, none⟩ = some (.int .i64 bc) ∧ W2.cell? ⟨w.heap.size + 1, 2, none⟩ = some (.slice q' l'.length cap') ∧ W2.cell? ⟨w.heap.size + 1, 3, none⟩ = some (.int .i64 bf') ∧ W2.cell? ⟨w.heap.size + 1, 4, none⟩ = some (.int .i64 bc')) := ⟨frefl _, a2, a3, a4, b2, b3, b4⟩
  clear hW2 hsz2 hf2 r1 r2 hI hJ hx hy a2 a3 a4 b2 b3 b4
  cases hmt : bits BinOp.and IntKind.i64 (mkF bf bc) (mkF bf' bc') == 0
  · have HE : Hid (colB (id, (s, l), (bf, bc)) (id', (s', l'), (bf', bc')) = usesB l l') := by show colB _ _ = _; simp only [colB, meetB, hmt]; rfl
    have hdn : (bits BinOp.and IntKind.i64 (mkF bf bc) (mkF bf' bc') != 0) = true := by rw [bne, hmt]; rfl
    go_enter Try.func104, Try.ntmps104
    go_wp2
    rw [← HW2.out]
    clear HW2
    have HSS := HS.out
    clear HS
    go_region_held3 (fun w' => Fresh W2 w' ∧ w'.cell? ⟨w.heap.size, 2, none⟩ = some (.slice q l.length cap) ∧ w'.cell? ⟨w.heap.size, 3, none⟩ = some (.int .i64 bf) ∧ w'.cell? ⟨w.heap.size, 4, none⟩ = some (.int .i64 bc) ∧ w'.cell? ⟨w.heap.size + 1, 2, none⟩ = some (.slice q' l'.length cap') ∧ w'.cell? ⟨w.heap.size + 1, 3, none⟩ = some (.int .i64 bf') ∧ w'.cell? ⟨w.heap.size + 1, 4, none⟩ = some (.int .i64 bc'))
      (first | assumption | exact keepc6 (by assumption) (by assumption) | exact keepc6 (by assumption) (fdrew (frefl _)) | exact keepc6 (by assumption) (frefl _))
      (first | (go_at_call 153; refine (maskOf_any _ _ _ (by omega) (by omega) (by omega)).mono ?_; rintro e w10 ⟨rfl, hb10⟩) | (go_at_call 154; refine (common_any q q' cap cap' l l' _ (HI.out.keep (And.left (by assumption))) (HJ.out.keep (And.left (by assumption))) (by omega) (by omega)).mono ?_; rintro e w11 ⟨pc, cc, rfl, _, hb11⟩))
    have hfe : Fresh W2 w11 := And.left (by assumption)
    have HFE := Lib.hid (fstep HF2.out hfe)
    clear hfe
    have HCP : Hid (decide (0 < (commonF l l').length) = usesB l l') := by
      show _ = _
      have := common_pos l l'
      rw [← this]; simp only [Int.natCast_pos]
    go_wp2
    go_ret
    exact ⟨ret_bool (by rw [HE.out, ← HCP.out]), HFE.out⟩
  · have HE : Hid (colB (id, (s, l), (bf, bc)) (id', (s', l'), (bf', bc')) = false) := by show colB _ _ = _; simp only [colB, meetB, hmt]; rfl
    have hdn : (bits BinOp.and IntKind.i64 (mkF bf bc) (mkF bf' bc') != 0) = false := by rw [bne, hmt]; rfl
    obtain ⟨_, a2, a3, a4, b2, b3, b4⟩ := HS.out
    have i3 := fun xa : After W2 => akeep a3 xa
    have i4 := fun xa : After W2 => akeep a4 xa
    have j3 := fun xa : After W2 => akeep b3 xa
    have j4 := fun xa : After W2 => akeep b4 xa
    clear a2 a3 a4 b2 b3 b4 HS
    go_enter Try.func104, Try.ntmps104
    go_wp2
    rw [← HW2.out]
    clear HW2
    refine wp_region_after (by kernel_rfl) (by kernel_rfl) ?_
    repeat (go_big_quiet_step ((go_at_call 153; exact after_call (maskOf_any _ _ _ (by omega) (by omega) (by omega)))))
    refine wpQuiet_nil ?_
    rintro _ ⟨xa, rfl⟩
    go_wp2
    go_ret
    exact ⟨ret_bool HE.out.symm, fstep HF2.out xa.h⟩

set_option maxHeartbeats 4000000 in
theorem l9Collide_any (x y : LL) (w : World) (hx : goodB x.f x.c = true) (hy : goodB y.f y.c = true) (hI : Ints w x.r.q x.r.fibs) (hJ : Ints w y.r.q y.r.fibs) (hn : x.r.fibs.length ≤ 1048576) (hm : y.r.fibs.length ≤ 1048576) :
    Calls Try.prog 150 #[llV x, llV y] w fun e w' => e = .returned (.bool (colB x.val y.val)) ∧ Fresh w w' := by
  obtain ⟨id, ⟨s, q, cap, l⟩, bf, bc⟩ := x
  obtain ⟨id', ⟨s', q', cap', l'⟩, bf', bc'⟩ := y
  simp only at hx hy hI hJ hn hm ⊢
  obtain ⟨g1, g2, g3⟩ := goodB_iff.1 hx
  obtain ⟨g1', g2', g3'⟩ := goodB_iff.1 hy
  obtain ⟨W2, hW2, hsz2, hf2, r1, r2⟩ := two_rows w [.int .i64 id, .int .i64 s, .slice q l.length cap, .int .i64 bf, .int .i64 bc] [.int .i64 id', .int .i64 s', .slice q' l'.length cap', .int .i64 bf', .int .i64 bc'] 142 142
  have HW2 := Lib.hid hW2
  have HF2 := Lib.hid hf2
  have HI := Lib.hid (hI.keep hf2)
  have HJ := Lib.hid (hJ.keep hf2)
  have a1 := r1.cell (i := 1) rfl
  have a2 := r1.cell (i := 2) rfl
  have a3 := r1.cell (i := 3) rfl
  have a4 := r1.cell (i := 4) rfl
  have b2 := r2.cell (i := 2) rfl
  have b3 := r2.cell (i := 3) rfl
  have b4 := r2.cell (i := 4) rfl
  have i1 := fun xa : After W2 => akeep a1 xa
  have i2 := fun xa : After W2 => akeep a2 xa
  have i3 := fun xa : After W2 => akeep a3 xa
  have i4 := fun xa : After W2 => akeep a4 xa
  have j2 := fun xa : After W2 => akeep b2 xa
  have j3 := fun xa : After W2 => akeep b3 xa
  have j4 := fun xa : After W2 => akeep b4 xa
  have HU : Hid (∀ xa : After W2, Calls Try.prog 167 #[.agg #[.int .i64 s, .slice q l.length cap], .slice q' l'.length cap'] xa.w' fun e w' => e = .returned (.bool (usesB l l')) ∧ Fresh xa.w' w') :=
    fun xa => l4Uses_any s q q' cap cap' l l' xa.w' (HI.out.keep xa.h) (HJ.out.keep xa.h) hn hm
  clear hW2 hsz2 hf2 r1 r2 hI hJ hx hy a1 a2 a3 a4 b2 b3 b4
  cases hu : usesB l l'
  · have HE : Hid (colB (id, (s, l), (bf, bc)) (id', (s', l'), (bf', bc')) = false) := by show colB _ _ = _; simp only [colB, hu, Bool.and_false]
    rw [hu] at HU
    go_enter Try.func150, Try.ntmps150
    go_wp2
    rw [← HW2.out]
    clear HW2
    refine wp_region_after (by kernel_rfl) (by kernel_rfl) ?_
    repeat (go_big_quiet_step ((first | (go_at_call 167; exact after_call (HU.out _)) | (go_at_call 169; exact after_call (l8Bits_any _ _ _ (by omega) (by omega) (by omega))))))
    refine wpQuiet_nil ?_
    rintro _ ⟨xa, rfl⟩
    go_wp2
    go_ret
    exact ⟨ret_bool HE.out.symm, fstep HF2.out xa.h⟩
  · rw [hu] at HU
    have HE : Hid (colB (id, (s, l), (bf, bc)) (id', (s', l'), (bf', bc')) = (bits BinOp.and IntKind.i64 (mkF bf bc) (mkF bf' bc') != 0)) := by show colB _ _ = _; simp only [colB, meetB, hu, Bool.and_true]; rfl
    clear hu
    go_enter Try.func150, Try.ntmps150
    go_wp2
    rw [← HW2.out]
    clear HW2
    refine wp_region_after (by kernel_rfl) (by kernel_rfl) ?_
    repeat (go_big_quiet_step ((first | (go_at_call 167; exact after_call (HU.out _)) | (go_at_call 169; exact after_call (l8Bits_any _ _ _ (by omega) (by omega) (by omega))))))
    refine wpQuiet_nil ?_
    rintro _ ⟨xa, rfl⟩
    go_wp2
    go_ret
    exact ⟨ret_bool HE.out.symm, fstep HF2.out xa.h⟩
end Go.Proofs.Ytjlhjkdmpngkbaa
