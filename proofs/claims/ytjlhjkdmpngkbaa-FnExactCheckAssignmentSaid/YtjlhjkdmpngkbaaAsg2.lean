/- Contracts: assignments of blocks, the program's side. -/
import Derived.Test.YtjlhjkdmpngkbaaAsg
import Derived.Test.YtjlhjkdmpngkbaaLw2
namespace Go.Proofs.Ytjlhjkdmpngkbaa
open Go.RowKit Go.PlainAid

set_option maxHeartbeats 1000000 in
theorem conflict_any (x y : LQ) (w : World) (hI : Ints w x.r.q x.r.fibs) (hJ : Ints w y.r.q y.r.fibs) (hn : x.r.fibs.length ≤ 1048576) (hm : y.r.fibs.length ≤ 1048576) :
    Calls Try.prog 116 #[lqV x, lqV y] w fun e w' => e = .returned (.bool (confB x.val y.val)) ∧ Fresh w w' := by
  obtain ⟨⟨s, q, cap, l⟩, c⟩ := x
  obtain ⟨⟨s', q', cap', l'⟩, c'⟩ := y
  simp only at hI hJ hn hm ⊢
  obtain ⟨W2, hW2, hsz2, hf2, r1, r2⟩ := two_rows w [.int .i64 s, .slice q l.length cap, .int .i64 c] [.int .i64 s', .slice q' l'.length cap', .int .i64 c'] 128 128
  have HW2 := Lib.hid hW2
  have HF2 := Lib.hid hf2
  have HI := Lib.hid (hI.keep hf2)
  have HJ := Lib.hid (hJ.keep hf2)
  have HE : Hid (confB ((s, l), c) ((s', l'), c') = decide (0 < (commonF l l').length)) := by
    show confB _ _ = _
    have := common_pos l l'
    simp only [Int.natCast_pos] at this
    rw [this]; rfl
  clear hW2 hsz2 hf2 r1 r2 hI hJ
  go_enter Try.func116, Try.ntmps116
  go_wp2_with fail
  rw [← HW2.out]
  refine (common_any q q' cap cap' l l' _ HI.out HJ.out hn hm).mono ?_
  rintro e w1 ⟨pc, cc, rfl, _, hb⟩
  have HF := Lib.hid (fstep HF2.out hb)
  clear hb
  go_wp2
  go_ret
  exact ⟨ret_bool HE.out.symm, HF.out⟩

theorem freeB_bad {L : List ((Int × List Int) × Int)} {B : List (Int × Int)} {i : Nat} {b : Int × Int} {T : Nat → Bool} {k : Nat} (hk : k < L.length) (h1 : k ≠ i) (h2 : T k = true) (h3 : confAt L i k = true) (h4 : mkN b &&& bmask B k ≠ 0) : freeB L B i b T = false :=
  rall_bad hk (by simp [h1, h2, h3, h4])
theorem freeB_all {L : List ((Int × List Int) × Int)} {B : List (Int × Int)} {i : Nat} {b : Int × Int} {T : Nat → Bool} {n : Nat} (hn : L.length = n) (h : ∀ k, k < n → (decide (k ≠ i) && T k && confAt L i k && decide (mkN b &&& bmask B k ≠ 0)) = false) : freeB L B i b T = true := by
  unfold freeB; rw [hn]; exact rall_end fun k hk => by rw [h k hk]; rfl
theorem allStep {f : Nat → Bool} {k : Nat} (h : ∀ j, j < k → f j = false) (hk : f k = false) : ∀ j, j < k + 1 → f j = false := by
  intro j hj
  rcases Nat.lt_or_ge j k with h' | h'
  · exact h j h'
  · have : j = k := by omega
    subst this; exact hk

set_option maxHeartbeats 4000000 in
set_option maxRecDepth 100000 in
theorem isFree_any (cl : FuncId) (cp : Array Value) (p pb : Option Addr) (cap cb : Nat) (l : List LQ) (B : List (Int × Int)) (i : Nat) (f c : Int) (T : Nat → Bool) (w : World) (hl : Reqs w p l) (hs : ReqsSmall l) (hB : Prs w pb B) (hi : i < l.length) (hbn : B.length ≤ 1048576) (hg : goodB f c = true)
    (hT : ∀ k, k < l.length → k ≠ i → T k = true → ∃ b, B[k]? = some b ∧ goodB b.1 b.2 = true) (eg : ∀ args w, (callFunc cl args).run Try.prog w = .ok (.enter cl args) w)
    (hcl : ∀ k, k < l.length → ∀ (w' : World), Fresh w w' → Calls Try.prog cl (#[.int .i64 (k : Int)] ++ cp) w' fun e w'' => e = .returned (.bool (T k)) ∧ Fresh w' w'') :
    Calls Try.prog 121 #[.slice p l.length cap, .slice pb B.length cb, .int .i64 (i : Int), .agg #[.int .i64 f, .int .i64 c], .func (.func cl) #[] cp] w fun e w' => e = .returned (.bool (freeB (l.map LQ.val) B i (f, c) T)) ∧ Fresh w w' := by
  have hn := hs.1
  have HSM := Lib.hid hs
  have HL := Lib.hid hl
  have HB := Lib.hid hB
  have HT := Lib.hid hT
  have HCL := Lib.hid hcl
  have HML : Hid ((l.map LQ.val).length = l.length) := by show _ = _; simp
  obtain ⟨g1, g2, g3⟩ := goodB_iff.1 hg
  obtain ⟨e1, _, e3⟩ := mkN_ok hg
  have HE1 := Lib.hid e1
  have hiz : (i : Int) < (l.length : Int) := by omega
  obtain ⟨W1, hW1⟩ : ∃ W1, W1 = w.alloc (.cells #[.int .i64 f, .int .i64 c] 80) := ⟨_, rfl⟩
  have HF1 : Hid (Fresh w W1) := by show Fresh w W1; rw [hW1]; exact fnew (frefl _) _
  have HR1 : Hid (RowAt W1 w.heap.size 80 [.int .i64 f, .int .i64 c]) := by show RowAt W1 _ _ _; rw [hW1]; exact RowAt.new w _ _
  have HW1 := Lib.hid hW1
  clear hs hl hB hT hcl hW1 e1 hg
  go_enter Try.func121, Try.ntmps121
  go_wp2
  rw [← HW1.out]
  clear HW1
  go_loopw [14] (fun j wr => ∃ k : Nat, k ≤ l.length ∧ j = .int .i64 k ∧ (∀ j, j < k → (decide (j ≠ i) && T j && confAt (l.map LQ.val) i j && decide (mkN (f, c) &&& bmask B j ≠ 0)) = false) ∧ Fresh W1 wr) (fun j _ => l.length - (intOf j).toNat)
  case atStart => exact ⟨0, Nat.zero_le _, rfl, fun j hj => by omega, frefl _⟩
  case round =>
    obtain ⟨k, hk, rfl, hall, hf⟩ := hrel
    have HA := Lib.hid hall
    have HF := Lib.hid hf
    have HFW := Lib.hid (fstep HF1.out hf)
    have q0 := (HR1.out.keep hf).cell (i := 0) rfl
    have q1 := (HR1.out.keep hf).cell (i := 1) rfl
    have m0 := fun xa : After wr => akeep q0 xa
    have m1 := fun xa : After wr => akeep q1 xa
    clear hall hf q0 q1
    by_cases hlt : k < l.length
    · have hltz : (k : Int) < (l.length : Int) := by omega
      obtain ⟨b1, o1, x, hp1, hx, hxm, hxi, c10, c11, c12⟩ := (HL.out.keep HFW.out).at hlt
      obtain ⟨b1', o1', y, hp1', hy, hym, hyi, c20, c21, c22⟩ := (HL.out.keep HFW.out).at hi
      subst hp1
      cases hp1'
      have hcf := confAt_of (rq_at hy) (rq_at hx)
      have HCF := Lib.hid hcf
      have hsx := HSM.out.2 x hxm
      have hsy := HSM.out.2 y hym
      have HC : Hid (∀ xa : After wr, Calls Try.prog 116 #[lqV y, lqV x] xa.w' fun e w' => e = .returned (.bool (confB y.val x.val)) ∧ Fresh xa.w' w') :=
        fun xa => conflict_any y x xa.w' (hyi.keep xa.h) (hxi.keep xa.h) hsy hsx
      have HTC : Hid (∀ xa : After wr, Calls Try.prog cl (#[.int .i64 (k : Int)] ++ cp) xa.w' fun e w' => e = .returned (.bool (T k)) ∧ Fresh xa.w' w') :=
        fun xa => HCL.out k hlt xa.w' (fstep HFW.out xa.h)
      have i0 := fun xa : After wr => akeep c10 xa
      have i1 := fun xa : After wr => akeep c11 xa
      have i2 := fun xa : After wr => akeep c12 xa
      have j0 := fun xa : After wr => akeep c20 xa
      have j1 := fun xa : After wr => akeep c21 xa
      have j2 := fun xa : After wr => akeep c22 xa
      clear hx hxm hxi hy hym hyi hcf c10 c11 c12 c20 c21 c22
      have HK := Lib.hid hlt
      by_cases hki : k = i
      · have hne : ((k : Int) != (i : Int)) = false := by simp [hki]
        have HN := Lib.hid (allStep HA.out (show (decide (k ≠ i) && T k && confAt (l.map LQ.val) i k && decide (mkN (f, c) &&& bmask B k ≠ 0)) = false by simp [hki]))
        clear hki
        go_wp2
        refine wp_region_after (by kernel_rfl) (by kernel_rfl) ?_
        repeat (go_big_quiet_step ((first | (go_at_call 116; exact after_call (HC.out _)) | (go_at_call 153; exact after_call (maskOf_any _ _ _ (by omega) (by omega) (by omega))) | exact after_call (HTC.out _))))
        refine wpQuiet_nil ?_
        rintro _ ⟨xa, rfl⟩
        go_wp2
        go_roundw
        case rel => exact ⟨k + 1, by omega, by go_num, HN.out, fstep HF.out xa.h⟩
        case measure => simp [intOf]; omega
      · have hne : ((k : Int) != (i : Int)) = true := by simp; omega
        have HKI := Lib.hid hki
        clear hki
        cases htk : T k
        · have HN := Lib.hid (allStep HA.out (show (decide (k ≠ i) && T k && confAt (l.map LQ.val) i k && decide (mkN (f, c) &&& bmask B k ≠ 0)) = false by rw [htk]; simp))
          rw [htk] at HTC
          clear htk
          go_wp2
          refine wp_region_after (by kernel_rfl) (by kernel_rfl) ?_
          repeat (go_big_quiet_step ((first | (go_at_call 116; exact after_call (HC.out _)) | (go_at_call 153; exact after_call (maskOf_any _ _ _ (by omega) (by omega) (by omega))) | exact after_call (HTC.out _))))
          refine wpQuiet_nil ?_
          rintro _ ⟨xa, rfl⟩
          go_wp2
          go_roundw
          case rel => exact ⟨k + 1, by omega, by go_num, HN.out, fstep HF.out xa.h⟩
          case measure => simp [intOf]; omega
        · rw [htk] at HTC
          have HTK := Lib.hid htk
          clear htk
          obtain ⟨⟨bf, bc⟩, hbk, hgb⟩ := HT.out k hlt HKI.out HTK.out
          have hkb : k < B.length := by
            rcases Nat.lt_or_ge k B.length with h' | h'
            · exact h'
            · rw [List.getElem?_eq_none h'] at hbk; cases hbk
          have hkbz : (k : Int) < (B.length : Int) := by omega
          obtain ⟨b3, o3, bf', bc', hp3, hbk', d0, d1⟩ := (HB.out.keep HFW.out).at (k := k) hkb
          subst hp3
          rw [hbk] at hbk'
          simp only [Option.some.injEq, Prod.mk.injEq] at hbk'
          obtain ⟨rfl, rfl⟩ := hbk'
          have k0 := fun xa : After wr => akeep d0 xa
          have k1 := fun xa : After wr => akeep d1 xa
          have hbm := bmask_of hbk
          rw [if_pos (good_pos hgb)] at hbm
          simp only at hgb
          obtain ⟨t1, t2, t3⟩ := goodB_iff.1 hgb
          obtain ⟨u1, _, u3⟩ := mkN_ok hgb
          have hand := andn_i64 (mkN (f, c)) (mkN (bf, bc)) (lt63 e3) (lt63 u3)
          rw [← HE1.out, ← u1] at hand
          have HAND := Lib.hid hand
          have HBM := Lib.hid hbm
          clear hbk hbm hgb u1 hand d0 d1 hkb
          cases hcc : confB y.val x.val
          · have HN := Lib.hid (allStep HA.out (show (decide (k ≠ i) && T k && confAt (l.map LQ.val) i k && decide (mkN (f, c) &&& bmask B k ≠ 0)) = false by rw [HCF.out, hcc]; simp))
            rw [hcc] at HC
            clear hcc
            go_wp2
            refine wp_region_after (by kernel_rfl) (by kernel_rfl) ?_
            repeat (go_big_quiet_step ((first | (go_at_call 116; exact after_call (HC.out _)) | (go_at_call 153; exact after_call (maskOf_any _ _ _ (by omega) (by omega) (by omega))) | exact after_call (HTC.out _))))
            refine wpQuiet_nil ?_
            rintro _ ⟨xa, rfl⟩
            go_wp2
            go_roundw
            case rel => exact ⟨k + 1, by omega, by go_num, HN.out, fstep HF.out xa.h⟩
            case measure => simp [intOf]; omega
          · rw [hcc] at HC
            by_cases hz : mkN (f, c) &&& mkN (bf, bc) = 0
            · have HN := Lib.hid (allStep HA.out (show (decide (k ≠ i) && T k && confAt (l.map LQ.val) i k && decide (mkN (f, c) &&& bmask B k ≠ 0)) = false by rw [HBM.out, hz]; simp))
              have hbz : (bits BinOp.and IntKind.i64 (mkF f c) (mkF bf bc) != 0) = false := by rw [HAND.out, hz]; rfl
              clear hcc hz
              go_wp2
              refine wp_region_after (by kernel_rfl) (by kernel_rfl) ?_
              repeat (go_big_quiet_step ((first | (go_at_call 116; exact after_call (HC.out _)) | (go_at_call 153; exact after_call (maskOf_any _ _ _ (by omega) (by omega) (by omega))) | exact after_call (HTC.out _))))
              refine wpQuiet_nil ?_
              rintro _ ⟨xa, rfl⟩
              go_wp2
              go_roundw
              case rel => exact ⟨k + 1, by omega, by go_num, HN.out, fstep HF.out xa.h⟩
              case measure => simp [intOf]; omega
            · have HE := Lib.hid (freeB_bad (L := l.map LQ.val) (B := B) (i := i) (b := (f, c)) (T := T) (k := k) (by rw [HML.out]; exact HK.out) HKI.out HTK.out (by rw [HCF.out, hcc]) (by rw [HBM.out]; exact hz))
              have hbz : (bits BinOp.and IntKind.i64 (mkF f c) (mkF bf bc) != 0) = true := by rw [HAND.out, bne_iff_ne]; simp; exact hz
              clear hcc hz
              go_wp2
              refine wp_region_after (by kernel_rfl) (by kernel_rfl) ?_
              repeat (go_big_quiet_step ((first | (go_at_call 116; exact after_call (HC.out _)) | (go_at_call 153; exact after_call (maskOf_any _ _ _ (by omega) (by omega) (by omega))) | exact after_call (HTC.out _))))
              refine wpQuiet_nil ?_
              rintro _ ⟨xa, rfl⟩
              go_wp2
              go_ret
              exact ⟨ret_bool HE.out.symm, fstep HFW.out xa.h⟩
    · have hkn : k = l.length := by omega
      have hltz : ¬ (k : Int) < (l.length : Int) := by omega
      have HE := Lib.hid (freeB_all (L := l.map LQ.val) (B := B) (i := i) (b := (f, c)) (T := T) HML.out (by rw [← hkn]; exact HA.out))
      go_wp2
      go_ret
      exact ⟨ret_bool HE.out.symm, HFW.out⟩

set_option maxHeartbeats 1000000 in
theorem heightOf_any (pb : Option Addr) (cb : Nat) (B : List (Int × Int)) (w : World) (hB : Prs w pb B) (hg : ∀ b ∈ B, goodB b.1 b.2 = true) (hbn : B.length ≤ 1048576) :
    Calls Try.prog 123 #[.slice pb B.length cb] w fun e w' => e = .returned (.int .i64 (heightTo B)) ∧ Fresh w w' := by
  have HG := Lib.hid hg
  have HB := Lib.hid hB
  clear hg hB
  go_enter Try.func123, Try.ntmps123
  go_wp2
  go_loopw [3, 8] (fun a j wr => ∃ k : Nat, k ≤ B.length ∧ j = .int .i64 k ∧ a = .int .i64 (heightTo (B.take k)) ∧ Fresh w wr) (fun _ j _ => B.length - (intOf j).toNat)
  case atStart => exact ⟨0, Nat.zero_le _, rfl, rfl, frefl _⟩
  case round =>
    obtain ⟨k, hk, rfl, rfl, hf⟩ := hrel
    have HF := Lib.hid hf
    clear hf
    by_cases hlt : k < B.length
    · have hltz : (k : Int) < (B.length : Int) := by omega
      obtain ⟨b3, o3, f, c, hp3, hbk, d0, d1⟩ := (HB.out.keep HF.out).at hlt
      subst hp3
      obtain ⟨g1, g2, g3⟩ := goodB_iff.1 (HG.out _ (List.mem_of_getElem? hbk))
      have HST := Lib.hid (height_step hbk)
      obtain ⟨h1, h2⟩ := height_bd HG.out k
      obtain ⟨H, hH⟩ : ∃ H, H = heightTo (B.take k) := ⟨_, rfl⟩
      rw [← hH] at h1 h2 HST ⊢
      simp only at g1 g2 g3
      clear hbk hH
      go_wp2
      go_roundw
      case rel => exact ⟨k + 1, by omega, by go_num, by first | (rw [HST.out]; done) | (rw [HST.out]; congr 1; rw [Int.max_def]; split <;> split <;> omega), fnew HF.out _⟩
      case measure => simp [intOf]; omega
    · have hkn : k = B.length := by omega
      have hltz : ¬ (k : Int) < (B.length : Int) := by omega
      subst hkn
      go_wp2
      go_ret
      exact ⟨by simp, HF.out⟩

set_option maxHeartbeats 1000000 in
theorem chkClo_any (j k : Nat) (h : Nat) (w : World) (hc : w.cell? ⟨h, 0, none⟩ = some (.int .i64 (k : Int))) :
    Calls Try.prog 122 (#[.int .i64 (j : Int)] ++ #[.pointer (some ⟨h, 0, none⟩)]) w fun e w' => e = .returned (.bool (decide (j < k))) ∧ Fresh w w' := by
  by_cases hjk : j < k
  · have hz : decide ((j : Int) < (k : Int)) = true := decide_eq_true (by omega)
    have HE : Hid (decide (j < k) = true) := decide_eq_true hjk
    clear hjk
    go_enter Try.func122, Try.ntmps122
    go_wp2
    go_ret
    exact ⟨rfl, frefl _⟩
  · have hz : decide ((j : Int) < (k : Int)) = false := decide_eq_false (by omega)
    have HE : Hid (decide (j < k) = false) := decide_eq_false hjk
    clear hjk
    go_enter Try.func122, Try.ntmps122
    go_wp2
    go_ret
    exact ⟨rfl, frefl _⟩
end Go.Proofs.Ytjlhjkdmpngkbaa
