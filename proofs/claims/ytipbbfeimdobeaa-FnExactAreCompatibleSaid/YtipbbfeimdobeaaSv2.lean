/- Contracts: whether two routes with blocks meet; the end of a route; both sides. -/
import Derived.Test.YtipbbfeimdobeaaSvP
import Derived.Test.YtipbbfeimdobeaaGr4
namespace Go.Proofs.Ytipbbfeimdobeaa
open Go.RowKit Go.PlainAid

set_option maxHeartbeats 400000 in
theorem maskOf_z (w : World) : Calls Try.prog 98 #[.agg #[.int .i64 0, .int .i64 0]] w fun e w' => e = .returned (.int .i64 0) ∧ Fresh w w' := by
  go_enter Try.func98, Try.ntmps98
  go_wp2
  go_quiet (fail)
  go_wp2
  go_ret
  exact ⟨rfl, fdrewN (fnew (frefl _) _) _⟩
theorem maskOf_w (f c : Int) (w : World) (h : BOk (f, c)) : Calls Try.prog 98 #[.agg #[.int .i64 f, .int .i64 c]] w fun e w' => e = .returned (.int .i64 (mkF f c)) ∧ Fresh w w' := by
  rcases h with h | h
  · obtain ⟨h1, h2, h3⟩ := goodB_iff.1 h
    exact maskOf_any f c w h1 h2 h3
  · cases h
    rw [mkF_zero]
    exact maskOf_z w

set_option maxHeartbeats 4000000 in
theorem collide_w (x y : LL) (w : World) (hx : BOk (x.f, x.c)) (hy : BOk (y.f, y.c)) (hI : Ints w x.r.q x.r.fibs) (hJ : Ints w y.r.q y.r.fibs) (hn : x.r.fibs.length ≤ 1048576) (hm : y.r.fibs.length ≤ 1048576) :
    Calls Try.prog 91 #[llV x, llV y] w fun e w' => e = .returned (.bool (colB x.val y.val)) ∧ Fresh w w' := by
  obtain ⟨id, ⟨s, q, cap, l⟩, bf, bc⟩ := x
  obtain ⟨id', ⟨s', q', cap', l'⟩, bf', bc'⟩ := y
  simp only at hx hy hI hJ hn hm ⊢
  have HX := Lib.hid hx
  have HY := Lib.hid hy
  obtain ⟨W2, hW2, hsz2, hf2, r1, r2⟩ := two_rows w [.int .i64 id, .int .i64 s, .slice q l.length cap, .int .i64 bf, .int .i64 bc] [.int .i64 id', .int .i64 s', .slice q' l'.length cap', .int .i64 bf', .int .i64 bc'] 124 124
  have HW2 := Lib.hid hW2
  have HF2 := Lib.hid hf2
  have HI := Lib.hid (hI.keep hf2)
  have HJ := Lib.hid (hJ.keep hf2)
  have a2 := r1.cell (i := 2) rfl
  have a3 := r1.cell (i := 3) rfl
  have a4 := r1.cell (i := 4) rfl
  have b2 := r2.cell (i := 2) rfl
  have b3 := r2.cell (i := 3) rfl
  have b4 := r2.cell (i := 4) rfl
  have HS : Hid (Fresh W2 W2 ∧ W2.cell? ⟨w.heap.size, 2, none⟩ = some (.slice q l.length cap) ∧ W2.cell? ⟨w.heap.size, 3, none⟩ = some (.int .i64 bf) ∧ W2.cell? ⟨w.heap.size, 4, none⟩ = some (.int .i64 bc) ∧ W2.cell? ⟨w.heap.size + 1, 2, none⟩ = some (.slice q' l'.length cap') ∧ W2.cell? ⟨w.heap.size + 1, 3, none⟩ = some (.int .i64 bf') ∧ W2.cell? ⟨w.heap.size + 1, 4, none⟩ = some (.int .i64 bc')) := ⟨frefl _, a2, a3, a4, b2, b3, b4⟩
  clear hW2 hsz2 hf2 r1 r2 hI hJ hx hy a2 a3 a4 b2 b3 b4
  cases hmt : bits BinOp.and IntKind.i64 (mkF bf bc) (mkF bf' bc') == 0
  · have HE : Hid (colB (id, (s, l), (bf, bc)) (id', (s', l'), (bf', bc')) = usesB l l') := by show colB _ _ = _; simp only [colB, meetB, hmt]; rfl
    have hdn : (bits BinOp.and IntKind.i64 (mkF bf bc) (mkF bf' bc') != 0) = true := by rw [bne, hmt]; rfl
    go_enter Try.func91, Try.ntmps91
    go_wp2
    rw [← HW2.out]
    clear HW2
    have HSS := HS.out
    clear HS
    go_region_held3 (fun w' => Fresh W2 w' ∧ w'.cell? ⟨w.heap.size, 2, none⟩ = some (.slice q l.length cap) ∧ w'.cell? ⟨w.heap.size, 3, none⟩ = some (.int .i64 bf) ∧ w'.cell? ⟨w.heap.size, 4, none⟩ = some (.int .i64 bc) ∧ w'.cell? ⟨w.heap.size + 1, 2, none⟩ = some (.slice q' l'.length cap') ∧ w'.cell? ⟨w.heap.size + 1, 3, none⟩ = some (.int .i64 bf') ∧ w'.cell? ⟨w.heap.size + 1, 4, none⟩ = some (.int .i64 bc'))
      (first | assumption | exact keepc6 (by assumption) (by assumption) | exact keepc6 (by assumption) (fdrew (frefl _)) | exact keepc6 (by assumption) (frefl _))
      (first | (go_at_call 98; refine (maskOf_w _ _ _ (by first | exact HX.out | exact HY.out)).mono ?_; rintro e w10 ⟨rfl, hb10⟩) | (go_at_call 89; refine (common_any q q' cap cap' l l' _ (HI.out.keep (And.left (by assumption))) (HJ.out.keep (And.left (by assumption))) (by omega) (by omega)).mono ?_; rintro e w11 ⟨pc, cc, rfl, _, hb11⟩))
    have hfe : Fresh W2 w11 := And.left (by assumption)
    have HFE := Lib.hid (fstep HF2.out hfe)
    clear hfe
    have HCP : Hid (decide (0 < (commonF l l').length) = usesB l l') := by
      show _ = _
      have := common_pos l l'
      rw [← this]; simp only [Int.natCast_pos]
    go_wp2
    go_ret
    exact ⟨ret_bool (by rw [HE.out, ← HCP.out]), HFE.out⟩
  · have HE : Hid (colB (id, (s, l), (bf, bc)) (id', (s', l'), (bf', bc')) = false) := by show colB _ _ = _; simp only [colB, meetB, hmt]; rfl
    have hdn : (bits BinOp.and IntKind.i64 (mkF bf bc) (mkF bf' bc') != 0) = false := by rw [bne, hmt]; rfl
    obtain ⟨_, a2, a3, a4, b2, b3, b4⟩ := HS.out
    have i3 := fun xa : After W2 => akeep a3 xa
    have i4 := fun xa : After W2 => akeep a4 xa
    have j3 := fun xa : After W2 => akeep b3 xa
    have j4 := fun xa : After W2 => akeep b4 xa
    clear a2 a3 a4 b2 b3 b4 HS
    go_enter Try.func91, Try.ntmps91
    go_wp2
    rw [← HW2.out]
    clear HW2
    refine wp_region_after (by kernel_rfl) (by kernel_rfl) ?_
    repeat (go_big_quiet_step ((go_at_call 98; exact after_call (maskOf_w _ _ _ (by first | exact HX.out | exact HY.out)))))
    refine wpQuiet_nil ?_
    rintro _ ⟨xa, rfl⟩
    go_wp2
    go_ret
    exact ⟨ret_bool HE.out.symm, fstep HF2.out xa.h⟩


theorem four_rows (w : World) (a b c d : List Value) (t1 t2 t3 t4 : TypeId) : ∃ W4, W4 = (((w.alloc (.cells a.toArray t1)).alloc (.cells b.toArray t2)).alloc (.cells c.toArray t3)).alloc (.cells d.toArray t4) ∧ Fresh w W4 ∧
    RowAt W4 w.heap.size t1 a ∧ RowAt W4 (w.heap.size + 1) t2 b ∧ RowAt W4 (w.heap.size + 1 + 1) t3 c ∧ RowAt W4 (w.heap.size + 1 + 1 + 1) t4 d := by
  obtain ⟨W3, h1, h2, h3, r1, r2, r3⟩ := three_rows w a b c t1 t2 t3
  refine ⟨W3.alloc (.cells d.toArray t4), by rw [h1], fnew h3 _, r1.alloc _, r2.alloc _, r3.alloc _, ?_⟩
  rw [← h2]
  exact RowAt.new W3 t4 d
set_option maxHeartbeats 1000000 in
theorem overlap_any (s s2 : Int) (q q2 : Option Addr) (cap cap2 : Nat) (l l2 : List Int) (f c f2 c2 : Int) (w : World) (hx : BOk (f, c)) (hy : BOk (f2, c2)) (hI : Ints w q l) (hJ : Ints w q2 l2) (hn : l.length ≤ 1048576) (hm : l2.length ≤ 1048576) :
    Calls Try.prog 75 #[.agg #[.int .i64 s, .slice q l.length cap], .agg #[.int .i64 f, .int .i64 c], .agg #[.int .i64 s2, .slice q2 l2.length cap2], .agg #[.int .i64 f2, .int .i64 c2]] w fun e w' => e = .returned (.bool (clashB l (f, c) l2 (f2, c2))) ∧ Fresh w w' := by
  obtain ⟨W4, hW4, hf4, r1, r2, r3, r4⟩ := four_rows w [.int .i64 s, .slice q l.length cap] [.int .i64 f, .int .i64 c] [.int .i64 s2, .slice q2 l2.length cap2] [.int .i64 f2, .int .i64 c2] 55 56 55 56
  have HC := Lib.hid (collide_w ⟨0, ⟨s, q, cap, l⟩, f, c⟩ ⟨0, ⟨s2, q2, cap2, l2⟩, f2, c2⟩ W4 hx hy (hI.keep hf4) (hJ.keep hf4) hn hm)
  have HF4 := Lib.hid hf4
  have HW4 := Lib.hid hW4
  clear hW4 hf4 r1 r2 r3 r4 hx hy hI hJ
  go_enter Try.func75, Try.ntmps75
  go_wp2_with fail
  rw [← HW4.out]
  refine (HC.out).mono ?_
  rintro e w1 ⟨rfl, hb⟩
  have HF := Lib.hid (fstep HF4.out hb)
  clear hb
  go_wp2
  go_ret
  exact ⟨rfl, HF.out⟩
theorem clash_no {a b : List Int} {x y : Int × Int} (h : usesB a b = false) : clashB a x b y = false := by unfold clashB; rw [h, Bool.and_false]
theorem clash_yes {a b : List Int} {x y : Int × Int} (h : usesB a b = true) : clashB a x b y = (bits BinOp.and IntKind.i64 (mkF x.1 x.2) (mkF y.1 y.2) != 0) := by unfold clashB meetB; rw [h, Bool.and_true]; rfl
set_option maxHeartbeats 2000000 in
set_option maxRecDepth 100000 in
theorem l13Clash_any (s s2 : Int) (q q2 : Option Addr) (cap cap2 : Nat) (l l2 : List Int) (f c f2 c2 : Int) (w : World) (hx : BOk (f, c)) (hy : BOk (f2, c2)) (hI : Ints w q l) (hJ : Ints w q2 l2) (hn : l.length ≤ 1048576) (hm : l2.length ≤ 1048576) :
    Calls Try.prog 66 #[.agg #[.int .i64 s, .slice q l.length cap], .agg #[.int .i64 f, .int .i64 c], .agg #[.int .i64 s2, .slice q2 l2.length cap2], .agg #[.int .i64 f2, .int .i64 c2]] w fun e w' => e = .returned (.bool (clashB l (f, c) l2 (f2, c2))) ∧ Fresh w w' := by
  obtain ⟨W4, hW4, hf4, r1, r2, r3, r4⟩ := four_rows w [.int .i64 s, .slice q l.length cap] [.int .i64 f, .int .i64 c] [.int .i64 s2, .slice q2 l2.length cap2] [.int .i64 f2, .int .i64 c2] 55 56 55 56
  have HU : Hid (∀ xa : After W4, Calls Try.prog 82 #[.agg #[.int .i64 s, .slice q l.length cap], .slice q2 l2.length cap2] xa.w' fun e w' => e = .returned (.bool (usesB l l2)) ∧ Fresh xa.w' w') :=
    fun xa => l4Uses_any s q q2 cap cap2 l l2 xa.w' (hI.keep (fstep hf4 xa.h)) (hJ.keep (fstep hf4 xa.h)) hn hm
  have HF4 := Lib.hid hf4
  have HW4 := Lib.hid hW4
  have i0 := fun xa : After W4 => akeep (r1.cell (i := 0) rfl) xa
  have i1 := fun xa : After W4 => akeep (r1.cell (i := 1) rfl) xa
  have i2 := fun xa : After W4 => akeep (r2.cell (i := 0) rfl) xa
  have i3 := fun xa : After W4 => akeep (r2.cell (i := 1) rfl) xa
  have i4 := fun xa : After W4 => akeep (r3.cell (i := 1) rfl) xa
  have i5 := fun xa : After W4 => akeep (r4.cell (i := 0) rfl) xa
  have i6 := fun xa : After W4 => akeep (r4.cell (i := 1) rfl) xa
  have HX := Lib.hid hx
  have HY := Lib.hid hy
  clear hW4 hf4 r1 r2 r3 r4 hI hJ hx hy
  cases hu : usesB l l2
  · have HE := Lib.hid (clash_no (x := (f, c)) (y := (f2, c2)) hu)
    rw [hu] at HU
    go_enter Try.func66, Try.ntmps66
    go_wp2
    rw [← HW4.out]
    clear HW4
    refine wp_region_after (by kernel_rfl) (by kernel_rfl) ?_
    repeat (go_big_quiet_step ((first | (go_at_call 82; exact after_call (HU.out _)) | (go_at_call 83; exact after_call (l8Bits_any _ _ _ (by omega) (by omega) (by omega))))))
    refine wpQuiet_nil ?_
    rintro _ ⟨xa, rfl⟩
    go_wp2
    go_ret
    exact ⟨ret_bool HE.out.symm, fstep HF4.out xa.h⟩
  · rw [hu] at HU
    rcases HX.out with hx | hx
    · obtain ⟨x1, x2, x3⟩ := goodB_iff.1 hx
      simp only at x1 x2 x3
      have hcx : 0 < c := by omega
      rcases HY.out with hy | hy
      · obtain ⟨y1, y2, y3⟩ := goodB_iff.1 hy
        simp only at y1 y2 y3
        have hcy : 0 < c2 := by omega
        have HE := Lib.hid (clash_yes (x := (f, c)) (y := (f2, c2)) hu)
        clear hu hx hy
        go_enter Try.func66, Try.ntmps66
        go_wp2
        rw [← HW4.out]
        clear HW4
        refine wp_region_after (by kernel_rfl) (by kernel_rfl) ?_
        repeat (go_big_quiet_step ((first | (go_at_call 82; exact after_call (HU.out _)) | (go_at_call 83; exact after_call (l8Bits_any _ _ _ (by omega) (by omega) (by omega))))))
        refine wpQuiet_nil ?_
        rintro _ ⟨xa, rfl⟩
        go_wp2
        go_ret
        exact ⟨ret_bool HE.out.symm, fstep HF4.out xa.h⟩
      · cases hy
        have HE : Hid (clashB l (f, c) l2 (0, 0) = false) := by show _ = _; unfold clashB; rw [meet_zeroR HX.out, Bool.false_and]
        clear hu hx
        go_enter Try.func66, Try.ntmps66
        go_wp2
        rw [← HW4.out]
        clear HW4
        refine wp_region_after (by kernel_rfl) (by kernel_rfl) ?_
        repeat (go_big_quiet_step ((first | (go_at_call 82; exact after_call (HU.out _)) | (go_at_call 83; exact after_call (l8Bits_any _ _ _ (by omega) (by omega) (by omega))))))
        refine wpQuiet_nil ?_
        rintro _ ⟨xa, rfl⟩
        go_wp2
        go_ret
        exact ⟨ret_bool HE.out.symm, fstep HF4.out xa.h⟩
    · cases hx
      have HE : Hid (clashB l (0, 0) l2 (f2, c2) = false) := by show _ = _; unfold clashB; rw [meet_zeroL, Bool.false_and]
      clear hu
      go_enter Try.func66, Try.ntmps66
      go_wp2
      rw [← HW4.out]
      clear HW4
      refine wp_region_after (by kernel_rfl) (by kernel_rfl) ?_
      repeat (go_big_quiet_step ((first | (go_at_call 82; exact after_call (HU.out _)) | (go_at_call 83; exact after_call (l8Bits_any _ _ _ (by omega) (by omega) (by omega))))))
      refine wpQuiet_nil ?_
      rintro _ ⟨xa, rfl⟩
      go_wp2
      go_ret
      exact ⟨ret_bool HE.out.symm, fstep HF4.out xa.h⟩
set_option maxHeartbeats 1000000 in
theorem l4Nodes_any (v : Value) (n : Net) (s : Int) (q : Option Addr) (cap : Nat) (l : List Int) (out : List Int) (w : World) (h : NetIn w v n) (hl : Ints w q l) (hn : l.length ≤ 1048576) (hv : visR n.nodes.length n.fibers s l = some out) :
    Calls Try.prog 79 #[v, .agg #[.int .i64 s, .slice q l.length cap]] w (OutInts w out) := by
  have HV := Lib.hid hv
  have HN := Lib.hid h
  obtain ⟨q1, m, c, p, k, d, rfl⟩ := h.shape
  clear hv h
  obtain ⟨W2, hW2, hsz2, hf2, r1, r2⟩ := two_rows w [.slice q1 m c, .slice p k d] [.int .i64 s, .slice q l.length cap] 34 55
  have HC := Lib.hid (l4Walk_any _ n s q cap l W2 (HN.out.keep hf2) (hl.keep hf2) hn)
  have HF2 := Lib.hid hf2
  have HS2 := Lib.hid hf2.size
  have HW2 := Lib.hid hW2
  clear hW2 hsz2 hf2 r1 r2 hl
  go_enter Try.func79, Try.ntmps79
  go_wp2_with fail
  rw [← HW2.out]
  refine (HC.out).mono ?_
  rintro e w1 ⟨po, co, xs, rfl, hb, ho⟩
  obtain ⟨rfl, ho⟩ := ho out HV.out
  have HO := Lib.hid ho
  have HF := Lib.hid (fstep HF2.out hb)
  clear hb ho
  go_wp2
  go_ret
  exact ⟨po, co, rfl, HO.out.mono HS2.out, HF.out⟩
set_option maxHeartbeats 1000000 in
theorem l4End_any (v : Value) (n : Net) (s : Int) (q : Option Addr) (cap : Nat) (l : List Int) (w : World) (h : NetIn w v n) (hl : Ints w q l) (hn : l.length ≤ 1048576) (hv : isVis n s l = true) :
    Calls Try.prog 64 #[v, .agg #[.int .i64 s, .slice q l.length cap]] w fun e w' => e = .returned (.int .i64 (endR n (s, l))) ∧ Fresh w w' := by
  obtain ⟨out, hout⟩ : ∃ out, visR n.nodes.length n.fibers s l = some out := Option.isSome_iff_exists.1 hv
  obtain ⟨_, hpos, hend⟩ := vis_head hout
  have HE := Lib.hid hend
  have hlen : out.length ≤ 1048577 := by
    have h2 := hout
    unfold visR at h2
    split at h2
    · have := walk_len (k := l.length) (F := n.fibers) (s := s) (l := l) (out := out) (Nat.le_refl _) (by rw [List.take_length]; exact h2)
      omega
    · cases h2
  have HN := Lib.hid h
  obtain ⟨q1, m, c, p, k, d, rfl⟩ := h.shape
  clear hv h hend
  obtain ⟨W2, hW2, hsz2, hf2, r1, r2⟩ := two_rows w [.slice q1 m c, .slice p k d] [.int .i64 s, .slice q l.length cap] 34 55
  have HC := Lib.hid (l4Nodes_any _ n s q cap l out W2 (HN.out.keep hf2) (hl.keep hf2) hn hout)
  have HF2 := Lib.hid hf2
  have HW2 := Lib.hid hW2
  clear hW2 hsz2 hf2 r1 r2 hl hout
  go_enter Try.func64, Try.ntmps64
  go_wp2_with fail
  rw [← HW2.out]
  refine (HC.out).mono ?_
  rintro e w1 ⟨po, co, rfl, ho, hb⟩
  obtain ⟨b, off, rfl, hc⟩ := last_cell ho.ints hpos
  have HF := Lib.hid (fstep HF2.out hb)
  have e1 : IntKind.i64.wrap ((out.length : Int) - 1) = (out.length : Int) - 1 := by rw [IntKind.wrap_i64]; omega
  have e2 : ((out.length : Int) - 1).toNat = out.length - 1 := by omega
  have e3 : 1 ≤ out.length := hpos
  clear hb ho
  go_wp2
  go_ret
  exact ⟨ret_int HE.out.symm, HF.out⟩
end Go.Proofs.Ytipbbfeimdobeaa
