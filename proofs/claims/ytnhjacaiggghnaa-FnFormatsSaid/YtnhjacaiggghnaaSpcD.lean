/- Contracts: drawn masks and counts of slots. (Printed by gen_spc.py.) -/
import Derived.Test.YtnhjacaiggghnaaCur
import Derived.Test.YtnhjacaiggghnaaSpcP
namespace Go.Proofs.Ytnhjacaiggghnaa
open Go.RowKit

def OutM (w : World) (r : Nat) (cv : Value) (n : Int) (e : Ending) (w' : World) : Prop := OutI w r cv n 40 (fun x => -1 ≤ x ∧ x ≤ 16777216) e w'
theorem land_bd {m : Int} (h0 : 0 ≤ m) (h1 : m ≤ 16777215) {y : Int} (g0 : 0 ≤ y) (g1 : y ≤ 16777215) : -1 ≤ bits BinOp.and IntKind.i64 m y ∧ bits BinOp.and IntKind.i64 m y ≤ 16777216 := by
  obtain ⟨a, rfl⟩ := Int.eq_ofNat_of_zero_le h0
  obtain ⟨b, rfl⟩ := Int.eq_ofNat_of_zero_le g0
  rw [and_i64 a b (lt63 (by omega)) (lt63 (by omega))]
  have : a &&& b ≤ a := Nat.and_le_left
  omega
set_option maxHeartbeats 4000000 in
set_option maxRecDepth 20000 in
theorem mask_any {W0 w : World} {r : Nat} {p : Option Addr} {cap : Nat} {xs : List Int} {n : Int} (hC : CodeAt W0 p xs) (hf : Fresh W0 w) (hr : W0.heap.size ≤ r) (h0 : 0 ≤ n) (h1 : n ≤ 274877906944) (hcur : Cur w r (.slice p xs.length cap) n) :
    Calls Try.prog 42 #[.pointer (some ⟨r, 0, none⟩)] w (OutM w r (.slice p xs.length cap) n) := by
  have HC := Lib.hid hcur
  have HX := Lib.hid hC
  clear hC hcur
  go_enter Try.func42, Try.ntmps42
  go_wp2_with fail
  refine (pick_any HX.out 256 hf hr (by omega) (by omega) (by omega) HC.out).mono ?_; rintro e w1 ⟨x1, n1, ⟨p1, q1⟩, rfl, a1, b1, hc1, hg1⟩
  have f1 := freshGrown hf hg1 hr
  have HC1 := Lib.hid hc1
  have HG1 := Lib.hid hg1
  clear hc1 hg1
  go_wp2_with fail
  refine (pick_any HX.out 256 f1 hr (by omega) (by omega) (by omega) HC1.out).mono ?_; rintro e w2 ⟨x2, n2, ⟨p2, q2⟩, rfl, a2, b2, hc2, hg2⟩
  have f2 := freshGrown f1 hg2 hr
  have HC2 := Lib.hid hc2
  have HG2 := Lib.hid (grownTrans HG1.out hg2)
  clear hc2 hg2
  go_wp2_with fail
  refine (pick_any HX.out 256 f2 hr (by omega) (by omega) (by omega) HC2.out).mono ?_; rintro e w3 ⟨x3, n3, ⟨p3, q3⟩, rfl, a3, b3, hc3, hg3⟩
  have f3 := freshGrown f2 hg3 hr
  have HC3 := Lib.hid hc3
  have HG3 := Lib.hid (grownTrans HG2.out hg3)
  clear hc3 hg3
  have hm0 : 0 ≤ (x1 + 256 * x2 + 65536 * x3) := by omega
  have hm1 : (x1 + 256 * x2 + 65536 * x3) ≤ 16777215 := by omega
  have e1 : IntKind.i64.wrap (256 * x2) = 256 * x2 := by rw [IntKind.wrap_i64]; omega
  have e2 : IntKind.i64.wrap (x1 + 256 * x2) = x1 + 256 * x2 := by rw [IntKind.wrap_i64]; omega
  have e3 : IntKind.i64.wrap (65536 * x3) = 65536 * x3 := by rw [IntKind.wrap_i64]; omega
  have e4 : IntKind.i64.wrap (x1 + 256 * x2 + 65536 * x3) = x1 + 256 * x2 + 65536 * x3 := by rw [IntKind.wrap_i64]; omega
  go_wp2_with fail
  refine (pick_any HX.out 8 f3 hr (by omega) (by omega) (by omega) HC3.out).mono ?_; rintro e w4 ⟨x4, n4, ⟨p4, q4⟩, rfl, a4, b4, hc4, hg4⟩
  have f4 := freshGrown f3 hg4 hr
  have HC4 := Lib.hid hc4
  have HG4 := Lib.hid (grownTrans HG3.out hg4)
  clear hc4 hg4
  clear e1 e2 e3 e4
  by_cases c0 : x4 = 0
  · have cb : (x4 == 0) = true := by simp [c0]
    obtain ⟨W5, hW5⟩ : ∃ W, W = w4.alloc (.cells #[.int .i64 0, .int .i64 16777215, .int .i64 16777216, .int .i64 (-1), .int .i64 8388607, .int .i64 2] 3) := ⟨_, rfl⟩
    have hf5 : Fresh w4 W5 := by rw [hW5]; exact fnew (frefl _) _
    have hr5 : RowAt W5 w4.heap.size 3 ([0, 16777215, 16777216, -1, 8388607, 2].map iv) := by rw [hW5]; exact RowAt.new _ _ _
    have hlt : r < w4.heap.size := by obtain ⟨_, hh⟩ := HC4.out; exact hh.lt
    have HAM := Lib.hid (among_any HX.out (some ⟨w4.heap.size, 0, none⟩) 6 [0, 16777215, 16777216, -1, 8388607, 2] hr5.cells (by simp) (fun b o e => by cases e; omega) (fstep f4 hf5) hr (by omega) (by omega) (by simp) (HC4.out.keep hf5))
    have HW5 := Lib.hid hW5
    have HF5 := Lib.hid hf5
    clear hW5 hf5 hr5 c0
    go_wp2_with fail
    rw [← HW5.out]
    refine (HAM.out).mono ?_; rintro e w6 ⟨x6, n6, hx6, rfl, a6, b6, hc6, hg6⟩
    have HC6 := Lib.hid hc6
    have HG6 := Lib.hid (grownTrans (grownTrans HG4.out (grownFresh HF5.out _)) hg6)
    have hx7 : -1 ≤ x6 ∧ x6 ≤ 16777216 := by simp at hx6; omega
    clear hc6 hg6 hx6 HAM
    go_wp2
    go_ret
    exact ⟨x6, n6, hx7, rfl, by omega, by omega, HC6.out, HG6.out⟩
  have cb : (x4 == 0) = false := by simp [c0]
  by_cases c1 : x4 = 1 ∨ x4 = 2
  · rcases c1 with c1 | c1
    all_goals (
      have cc : (x4 == 1) = decide (x4 = 1) := by simp [c1]
      have cd : (x4 == 2) = decide (x4 = 2) := by simp [c1]
      simp only [c1] at cc cd cb
      subst c1
      go_wp2_with fail
      refine (pick_any HX.out 256 f4 hr (by omega) (by omega) (by omega) HC4.out).mono ?_; rintro e w5 ⟨x5, n5, ⟨p5, q5⟩, rfl, a5, b5, hc5, hg5⟩
      have f5 := freshGrown f4 hg5 hr
      have HC5 := Lib.hid hc5
      have HG5 := Lib.hid (grownTrans HG4.out hg5)
      clear hc5 hg5
      go_wp2_with fail
      refine (pick_any HX.out 256 f5 hr (by omega) (by omega) (by omega) HC5.out).mono ?_; rintro e w6 ⟨x6, n6, ⟨p6, q6⟩, rfl, a6, b6, hc6, hg6⟩
      have f6 := freshGrown f5 hg6 hr
      have HC6 := Lib.hid hc6
      have HG6 := Lib.hid (grownTrans HG5.out hg6)
      clear hc6 hg6
      go_wp2_with fail
      refine (pick_any HX.out 256 f6 hr (by omega) (by omega) (by omega) HC6.out).mono ?_; rintro e w7 ⟨x7, n7, ⟨p7, q7⟩, rfl, a7, b7, hc7, hg7⟩
      have f7 := freshGrown f6 hg7 hr
      have HC7 := Lib.hid hc7
      have HG7 := Lib.hid (grownTrans HG6.out hg7)
      clear hc7 hg7
      have e1 : IntKind.i64.wrap (256 * x6) = 256 * x6 := by rw [IntKind.wrap_i64]; omega
      have e2 : IntKind.i64.wrap (x5 + 256 * x6) = x5 + 256 * x6 := by rw [IntKind.wrap_i64]; omega
      have e3 : IntKind.i64.wrap (65536 * x7) = 65536 * x7 := by rw [IntKind.wrap_i64]; omega
      have e4 : IntKind.i64.wrap (x5 + 256 * x6 + 65536 * x7) = x5 + 256 * x6 + 65536 * x7 := by rw [IntKind.wrap_i64]; omega
      have hb := land_bd hm0 hm1 (y := x5 + 256 * x6 + 65536 * x7) (by omega) (by omega)
      go_wp2
      go_ret
      exact ⟨_, n7, hb, rfl, by omega, by omega, HC7.out, HG7.out⟩)
  have cc : (x4 == 1) = false := by simp; omega
  have cd : (x4 == 2) = false := by simp; omega
  by_cases c3 : x4 = 3
  · have ce : (x4 == 3) = true := by simp [c3]
    go_wp2_with fail
    refine (pick_any HX.out 12 f4 hr (by omega) (by omega) (by omega) HC4.out).mono ?_; rintro e w5 ⟨x5, n5, ⟨p5, q5⟩, rfl, a5, b5, hc5, hg5⟩
    have f5 := freshGrown f4 hg5 hr
    have HC5 := Lib.hid hc5
    have HG5 := Lib.hid (grownTrans HG4.out hg5)
    clear hc5 hg5
    go_wp2_with fail
    refine (pick_any HX.out 12 f5 hr (by omega) (by omega) (by omega) HC5.out).mono ?_; rintro e w6 ⟨x6, n6, ⟨p6, q6⟩, rfl, a6, b6, hc6, hg6⟩
    have f6 := freshGrown f5 hg6 hr
    have HC6 := Lib.hid hc6
    have HG6 := Lib.hid (grownTrans HG5.out hg6)
    clear hc6 hg6
    have e1 : IntKind.i64.wrap (1 + x6) = 1 + x6 := by rw [IntKind.wrap_i64]; omega
    have hgd : goodB x5 (1 + x6) = true := goodB_iff.2 ⟨by omega, by omega, by omega⟩
    obtain ⟨-, k2, k3⟩ := mkF_val (f := x5) (c := 1 + x6) (by omega) (by omega) (by omega)
    have HGD := Lib.hid hgd
    have hmk : -1 ≤ mkF x5 (1 + x6) ∧ mkF x5 (1 + x6) ≤ 16777216 := ⟨Int.le_trans (by decide) k2, Int.le_trans k3 (by decide)⟩
    clear k2 k3 hgd
    go_wp2_with fail
    refine (l8Bits_any x5 (1 + x6) w6 (by omega) (by omega) (by omega)).mono ?_; rintro e w7 ⟨rfl, hf7⟩
    have HF7 := Lib.hid hf7
    clear hf7
    go_wp2
    go_ret
    exact ⟨mkF x5 (1 + x6), n6, hmk, rfl, by omega, by omega, HC6.out.keep HF7.out, grownTrans HG6.out (grownFresh HF7.out _)⟩
  · have ce : (x4 == 3) = false := by simp [c3]
    have hsh : 0 ≤ (x1 + 256 * x2 + 65536 * x3) / 8 ∧ (x1 + 256 * x2 + 65536 * x3) / 8 ≤ 16777215 := by omega
    have hb := land_bd hm0 hm1 hsh.1 hsh.2
    go_wp2
    go_ret
    exact ⟨_, n4, hb, rfl, by omega, by omega, HC4.out, HG4.out⟩
set_option maxHeartbeats 2000000 in
theorem count_any {W0 w : World} {r : Nat} {p : Option Addr} {cap : Nat} {xs : List Int} {n : Int} (hC : CodeAt W0 p xs) (hf : Fresh W0 w) (hr : W0.heap.size ≤ r) (h0 : 0 ≤ n) (h1 : n ≤ 274877906984) (hcur : Cur w r (.slice p xs.length cap) n) :
    Calls Try.prog 43 #[.pointer (some ⟨r, 0, none⟩)] w (OutI w r (.slice p xs.length cap) n 40 (fun x => -1 ≤ x ∧ x ≤ 25)) := by
  have HC := Lib.hid hcur
  have HX := Lib.hid hC
  clear hC hcur
  go_enter Try.func43, Try.ntmps43
  go_wp2_with fail
  refine (one_any HX.out 10 hf hr (by omega) (by omega) (by omega) HC.out).mono ?_; rintro e w1 ⟨b1, n1, rfl, a1, c1, hc1, hg1⟩
  have f1 := freshGrown hf hg1 hr
  have HC1 := Lib.hid hc1
  have HG1 := Lib.hid hg1
  clear hc1 hg1
  cases b1
  · skip
    go_wp2_with fail
    refine (pick_any HX.out 8 f1 hr (by omega) (by omega) (by omega) HC1.out).mono ?_; rintro e w2 ⟨x2, n2, ⟨p2, q2⟩, rfl, a2, b2, hc2, hg2⟩
    have f2 := freshGrown f1 hg2 hr
    have HC2 := Lib.hid hc2
    have HG2 := Lib.hid (grownTrans HG1.out hg2)
    clear hc2 hg2
    have e1 : IntKind.i64.wrap (1 + x2) = 1 + x2 := by rw [IntKind.wrap_i64]; omega
    go_wp2
    go_ret
    exact ⟨_, n2, by omega, rfl, by omega, by omega, HC2.out, HG2.out⟩
  · obtain ⟨W5, hW5⟩ : ∃ W, W = w1.alloc (.cells #[.int .i64 0, .int .i64 24, .int .i64 25, .int .i64 (-1)] 3) := ⟨_, rfl⟩
    have hf5 : Fresh w1 W5 := by rw [hW5]; exact fnew (frefl _) _
    have hr5 : RowAt W5 w1.heap.size 3 ([0, 24, 25, -1].map iv) := by rw [hW5]; exact RowAt.new _ _ _
    have hlt : r < w1.heap.size := by obtain ⟨_, hh⟩ := HC1.out; exact hh.lt
    have HAM := Lib.hid (among_any HX.out (some ⟨w1.heap.size, 0, none⟩) 4 [0, 24, 25, -1] hr5.cells (by simp) (fun b o e => by cases e; omega) (fstep f1 hf5) hr (by omega) (by omega) (by simp) (HC1.out.keep hf5))
    have HW5 := Lib.hid hW5
    have HF5 := Lib.hid hf5
    clear hW5 hf5 hr5
    go_wp2_with fail
    rw [← HW5.out]
    refine (HAM.out).mono ?_; rintro e w6 ⟨x6, n6, hx6, rfl, a6, b6, hc6, hg6⟩
    have HC6 := Lib.hid hc6
    have HG6 := Lib.hid (grownTrans (grownTrans HG1.out (grownFresh HF5.out _)) hg6)
    have hx7 : -1 ≤ x6 ∧ x6 ≤ 25 := by simp at hx6; omega
    clear hc6 hg6 hx6 HAM
    go_wp2
    go_ret
    exact ⟨x6, n6, hx7, rfl, by omega, by omega, HC6.out, HG6.out⟩
end Go.Proofs.Ytnhjacaiggghnaa
