/- The walk of FnFormats. -/
import Derived.Test.YtnhjacaiggghnaaFmD
import Derived.Test.YtnhjacaiggghnaaFpP
import Derived.Test.YtnhjacaiggghnaaSpcW
namespace Go.Proofs.Ytnhjacaiggghnaa
open Go.RowKit Go.PlainAid

theorem vAt_any (p : Option Addr) (cap : Nat) (xs : List Int) (i : Int) (w : World) (hC : CodeAt w p xs) (h0 : 0 ≤ i) (h1 : i ≤ 2) :
    Calls Try.prog 11 #[.slice p xs.length cap, .int .i64 i] w fun e w' => ∃ x : Int, e = .returned (.int .i64 x) ∧ (0 ≤ x ∧ x ≤ 255) ∧ w = w' := by
  obtain ⟨hc, hb, hl⟩ := hC
  by_cases hlt : i < (xs.length : Int)
  · have hn : i.toNat < xs.length := by omega
    obtain ⟨b, off, rfl, hcl⟩ := Cells.at hc (k := i.toNat) (by simpa using hn)
    have hcell := hcl i.toNat (.int .u8 xs[i.toNat]) (by simp [hn])
    have hbd := hb xs[i.toNat] (List.getElem_mem hn)
    obtain ⟨x, hx⟩ : ∃ x, x = xs[i.toNat] := ⟨_, rfl⟩
    rw [← hx] at hcell hbd
    have HB := Lib.hid hbd
    clear hc hb hcl hx
    go_enter Try.func11, Try.ntmps11
    go_wp2
    go_ret
    exact ⟨_, rfl, HB.out, rfl⟩
  · have e1 : IntKind.i64.wrap (i * 7) = i * 7 := by rw [IntKind.wrap_i64]; omega
    have e2 : IntKind.i64.wrap (i * 7 + (xs.length : Int)) = i * 7 + (xs.length : Int) := by rw [IntKind.wrap_i64]; omega
    have hp : 0 ≤ i * 7 + (xs.length : Int) := by omega
    go_enter Try.func11, Try.ntmps11
    go_wp2
    go_ret
    exact ⟨(i * 7 + (xs.length : Int)) % 256, rfl, ⟨by omega, by omega⟩, rfl⟩
set_option maxHeartbeats 2000000 in
theorem drawSlots_any (p : Option Addr) (cap : Nat) (xs : List Int) (w : World) (hC : CodeAt w p xs) :
    Calls Try.prog 6 #[.slice p xs.length cap] w fun e w' => ∃ (q : Option Addr) (c : Nat) (L : List (Int × Int)) (m r : Int), e = .returned (.tuple #[.slice q L.length c, .int .i64 m, .int .i64 r]) ∧ Prs w' q L ∧ L.length ≤ 16 ∧ (0 ≤ m ∧ m ≤ 3100) ∧ (0 ≤ r ∧ r ≤ 1001) ∧ Fresh w w' := by
  have HX := Lib.hid hC
  clear hC
  obtain ⟨W1, hW1⟩ : ∃ W, W = w.alloc (.cells #[.slice p xs.length cap, .int .i64 0, .int .u64 0] 49) := ⟨_, rfl⟩
  have hf1 : Fresh w W1 := by rw [hW1]; exact fnew (frefl _) _
  have hr1 : Cur W1 w.heap.size (.slice p xs.length cap) 0 := ⟨0, by rw [hW1]; exact RowAt.new _ _ _⟩
  have HW1 := Lib.hid hW1
  have HF1 := Lib.hid hf1
  have HR1 := Lib.hid hr1
  clear hW1 hf1 hr1
  go_enter Try.func6, Try.ntmps6
  go_wp2_with fail
  rw [← HW1.out]
  refine (formats_any HX.out HF1.out (Nat.le_refl _) (by omega) (by omega) HR1.out).mono ?_
  rintro e w2 ⟨v, n2, rfl, hfm, a2, b2, hc2, hg2⟩
  have f2 := freshGrown HF1.out hg2 (Nat.le_refl _)
  have HC2 := Lib.hid hc2
  have HFM2 := Lib.hid hfm
  clear hc2 hg2 hfm
  go_wp2_with fail
  refine (pick_any HX.out 32 f2 (Nat.le_refl _) (by omega) (by omega) (by omega) HC2.out).mono ?_
  rintro e w3 ⟨x3, n3, ⟨p3, q3⟩, rfl, a3, b3, hc3, hg3⟩
  have f3 := freshGrown f2 hg3 (Nat.le_refl _)
  have HC3 := Lib.hid hc3
  have HFM3 := Lib.hid (HFM2.out.grown hg3)
  have e1 : IntKind.i64.wrap (100 * x3) = 100 * x3 := by rw [IntKind.wrap_i64]; omega
  clear hc3 hg3
  obtain ⟨W4, hW4⟩ : ∃ W, W = w3.alloc (.cells #[.int .i64 1, .int .i64 9, .int .i64 10, .int .i64 11, .int .i64 50, .int .i64 100, .int .i64 240, .int .i64 241, .int .i64 500, .int .i64 1000, .int .i64 0, .int .i64 1001] 3) := ⟨_, rfl⟩
  have hf4 : Fresh w3 W4 := by rw [hW4]; exact fnew (frefl _) _
  have hr4 : RowAt W4 w3.heap.size 3 ([1, 9, 10, 11, 50, 100, 240, 241, 500, 1000, 0, 1001].map iv) := by rw [hW4]; exact RowAt.new _ _ _
  have hlt : w.heap.size < w3.heap.size := by obtain ⟨_, hh⟩ := HC3.out; exact hh.lt
  have HAM := Lib.hid (among_any HX.out (some ⟨w3.heap.size, 0, none⟩) 12 [1, 9, 10, 11, 50, 100, 240, 241, 500, 1000, 0, 1001] hr4.cells (by simp) (fun b o e => by cases e; omega) (fstep f3 hf4) (Nat.le_refl _) (by omega) (by omega) (by simp) (HC3.out.keep hf4))
  have HFM4 := Lib.hid (HFM3.out.keep hf4)
  have HF4 := Lib.hid (fstep f3 hf4)
  have HW4 := Lib.hid hW4
  clear hW4 hf4 hr4
  go_wp2_with fail
  rw [← HW4.out]
  refine (HAM.out).mono ?_
  rintro e w5 ⟨z, n5, hz, rfl, a5, b5, hc5, hg5⟩
  obtain ⟨q, c, L, rfl, hp, hl⟩ := (HFM4.out.grown hg5).prs
  have HP := Lib.hid hp
  have HF5 := Lib.hid (freshGrown HF4.out hg5 (Nat.le_refl _))
  have hz2 : 0 ≤ z ∧ z ≤ 1001 := by simp at hz; omega
  clear hc5 hg5 hz hp HAM
  go_wp2
  go_ret3
  exact ⟨q, c, L, 100 * x3, z, rfl, HP.out, hl, by omega, hz2, HF5.out⟩
theorem slots_zero {l : List (Int × Int)} {n r k : Int} (h : slotsF l n r = (k, false)) : k = 0 := by
  unfold slotsF at h
  split at h
  · cases h
  · exact (Prod.mk.inj h).1.symm
set_option maxHeartbeats 8000000 in
set_option maxRecDepth 100000 in
theorem law_Formats (p : Option Addr) (cap : Nat) (xs : List Int) (w : World) (hI : Cells w p (xs.map (Value.int .u8))) (_ : xs.length ≤ 9223372036854775807) (hb : ∀ x ∈ xs, 0 ≤ x ∧ x ≤ 255) :
    Calls Try.prog 3 #[.slice p xs.length cap] w fun e w' => e = .returned (.bool true) ∧ Fresh w w' := by
  by_cases hbig : (65536 : Int) < (xs.length : Int)
  · have hbb : decide ((65536 : Int) < (xs.length : Int)) = true := decide_eq_true hbig
    go_enter Try.func3, Try.ntmps3
    go_wp2_with (go_at_call 5; refine (vBig_any p cap xs.length _).mono ?_; rw [hbb]; rintro e w1 ⟨rfl, rfl⟩)
    go_ret
    exact ⟨rfl, frefl _⟩
  have hbb : decide ((65536 : Int) < (xs.length : Int)) = false := decide_eq_false hbig
  have HC0 : Hid (CodeAt w p xs) := ⟨hI, hb, by omega⟩
  have HDR := Lib.hid (drawSlots_any p cap xs w ⟨hI, hb, by omega⟩)
  clear hI hb
  go_enter Try.func3, Try.ntmps3
  go_wp2_with (go_at_call 5; refine (vBig_any p cap xs.length _).mono ?_; rw [hbb]; rintro e w1 ⟨rfl, rfl⟩)
  refine (HDR.out).mono ?_
  rintro e w1 ⟨q, c, L, m, r, rfl, hp, hl, hm, hr, hf1⟩
  have HP := Lib.hid hp
  have HF1 := Lib.hid hf1
  clear hf1 hp HDR hbb
  obtain ⟨S, hS⟩ : ∃ S, slotsF L m r = S := ⟨_, rfl⟩
  obtain ⟨k, ok⟩ := S
  have HS := Lib.hid hS
  clear hS
  obtain ⟨fb, hfb⟩ : ∃ b, fmtsB L = b := ⟨_, rfl⟩
  have HB := Lib.hid hfb
  clear hfb
  go_wp2_with fail
  refine (implSlotsFor_any q c L m r _ HP.out (by omega)).mono ?_; rw [HS.out]; rintro e w2 ⟨rfl, hf2⟩
  have HF2 := Lib.hid (fstep HF1.out hf2)
  replace HP := Lib.hid (HP.out.keep hf2)
  clear hf2
  go_wp2_with fail
  refine (specSlotsFor_any q c L m r _ HP.out (by omega)).mono ?_; rw [HS.out]; rintro e w3 ⟨rfl, hf3⟩
  have HF3 := Lib.hid (fstep HF2.out hf3)
  replace HP := Lib.hid (HP.out.keep hf3)
  clear hf3
  go_wp2_with fail
  refine (implIsValidFormats_any q c L _ HP.out (by omega)).mono ?_; rw [HB.out]; rintro e w4 ⟨rfl, hf4⟩
  have HF4 := Lib.hid (fstep HF3.out hf4)
  replace HP := Lib.hid (HP.out.keep hf4)
  clear hf4
  go_wp2_with fail
  refine (specIsValidFormats_any q c L _ HP.out (by omega)).mono ?_; rw [HB.out]; rintro e w5 ⟨rfl, hf5⟩
  have HF5 := Lib.hid (fstep HF4.out hf5)
  replace HP := Lib.hid (HP.out.keep hf5)
  clear hf5
  cases ok
  · have hk : k = 0 := slots_zero HS.out
    subst hk
    cases fb
    all_goals (
      go_wp2
      go_ret
      exact ⟨rfl, HF5.out⟩)
  · have HC5 : Hid (CodeAt w5 p xs) := ⟨HC0.out.cells.keep HF5.out, HC0.out.bytes, HC0.out.len⟩
    cases fb
    all_goals (
      go_wp2_with fail
      refine (vAt_any p cap xs 1 _ HC5.out (by omega) (by omega)).mono ?_; rintro e w6 ⟨x6, rfl, hx6, rfl⟩
      have e1 : IntKind.i64.wrap (x6 * 8) = x6 * 8 := by rw [IntKind.wrap_i64]; omega
      have e2 : IntKind.i64.wrap (m + x6 * 8) = m + x6 * 8 := by rw [IntKind.wrap_i64]; omega
      obtain ⟨S1, hS1⟩ : ∃ S, slotsF L (m + x6 * 8) r = S := ⟨_, rfl⟩
      obtain ⟨k1, o1⟩ := S1
      have HS1 := Lib.hid hS1
      have HX6 := Lib.hid hx6
      clear hS1
      go_wp2_with fail
      refine (implSlotsFor_any q c L (m + x6 * 8) r _ HP.out (by omega)).mono ?_; rw [HS1.out]; rintro e w7 ⟨rfl, hf7⟩
      have HF7 := Lib.hid (fstep HF5.out hf7)
      have HP7 := Lib.hid (HP.out.keep hf7)
      have HC7 : Hid (CodeAt w7 p xs) := ⟨HC5.out.cells.keep hf7, HC5.out.bytes, HC5.out.len⟩
      clear hf7 e1 e2 hx6
      go_wp2_with fail
      refine (vAt_any p cap xs 2 _ HC7.out (by omega) (by omega)).mono ?_; rintro e w8 ⟨x8, rfl, hx8, rfl⟩
      have e3 : IntKind.i64.wrap (r + x8) = r + x8 := by rw [IntKind.wrap_i64]; omega
      obtain ⟨S2, hS2⟩ : ∃ S, slotsF L m (r + x8) = S := ⟨_, rfl⟩
      obtain ⟨k2, o2⟩ := S2
      have HS2 := Lib.hid hS2
      have HX8 := Lib.hid hx8
      clear hS2
      go_wp2_with fail
      refine (implSlotsFor_any q c L m (r + x8) _ HP7.out (by omega)).mono ?_; rw [HS2.out]; rintro e w9 ⟨rfl, hf9⟩
      have HF9 := Lib.hid (fstep HF7.out hf9)
      have g1 : o1 = true → k ≤ k1 := fun h => slots_longer (d := x6 * 8) (by have := HX6.out; omega) HS.out (by rw [HS1.out, h])
      have g2 : o2 = true → k ≤ k2 := fun h => slots_higher (e := x8) HX8.out.1 HS.out (by rw [HS2.out, h])
      clear hf9 e3 hx8
      cases o1
      all_goals (
        cases o2
        all_goals (
          have g1' := g1
          have g2' := g2
          simp only [true_implies, forall_const, Bool.false_eq_true, false_implies] at g1' g2'
          clear g1 g2
          go_wp2
          go_ret
          exact ⟨rfl, HF9.out⟩)))
end Go.Proofs.Ytnhjacaiggghnaa
