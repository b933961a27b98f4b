/- Contracts: lists of formats: copies, comparisons, validity on both sides. -/
import Derived.Test.YtnhjacaiggghnaaPairs
namespace Go.Proofs.Ytnhjacaiggghnaa
open Go.RowKit

theorem infoFmt : (Try.prog.info? 55).map (fun i => (i.zero, i.size, i.bytes)) = some (some (.agg #[.int .i64 0, .int .i64 0]), 2, 16) := by kernel_rfl
theorem madeCells_two (n : Nat) : madeCells #[iv 0, iv 0] n = (List.replicate n (iv 0)).toArray := by
  apply Array.ext
  · simp [madeCells]
  · intro i h1 h2
    have h : i % 2 = 0 ∨ i % 2 = 1 := by omega
    rcases h with h | h <;> simp [madeCells, h]
theorem mkPrs {T E : TypeId} (hu : Try.prog.underlying T = some (.slice E)) (hinfo : (Try.prog.info? E).map (fun i => (i.zero, i.size, i.bytes)) = some (some (.agg #[.int .i64 0, .int .i64 0]), 2, 16)) (n : Nat) (hn : n * 16 ≤ 281474976710656) (u : World) :
    (Instr.makeSlice T (.int .i64 (n : Int)) (.int .i64 (n : Int))).run Try.prog u = .ok (.slice (some ⟨u.heap.size, 0, none⟩) n n) (u.alloc (.cells ((List.replicate (n * 2) (iv 0)).toArray) E)) := by
  obtain ⟨i0, hi, hz0, hz1, hz2⟩ := info_parts hinfo
  have h := run_make (P := Try.prog) u T E i0 _ hu hi hz0 .i64 .i64 n n (by omega) (Int.le_refl _) (by rw [hz2]; omega) (by omega)
  rw [Int.toNat_natCast, hz1] at h
  rw [← madeCells_two]
  simpa [Value.cells] using h
theorem set_prs (l : List (Int × Int)) (k : Nat) (x y : Int) (hx : l[k]? = some (x, y)) :
    (((pcs (l.take k) ++ List.replicate ((l.length - k) * 2) (iv 0)).set (k * 2) (iv x)).set (k * 2 + 1) (iv y)) = pcs (l.take (k + 1)) ++ List.replicate ((l.length - (k + 1)) * 2) (iv 0) := by
  have hk : k < l.length := by
    rcases Nat.lt_or_ge k l.length with h | h
    · exact h
    · rw [List.getElem?_eq_none h] at hx; cases hx
  have hl : (pcs (l.take k)).length = k * 2 := by rw [pcs_len, List.length_take]; omega
  have e : (l.length - k) * 2 = (l.length - (k + 1)) * 2 + 1 + 1 := by omega
  have e2 : k * 2 + 1 - k * 2 = 0 + 1 := by omega
  rw [e, List.replicate_succ, List.replicate_succ, List.set_append, if_neg (by omega), hl, Nat.sub_self, List.set_cons_zero, List.set_append, if_neg (by omega), hl, e2, List.set_cons_succ, List.set_cons_zero,
    List.take_add_one, hx, pcs_app]
  simp [pcs, pc]
theorem get_prs0 (l : List (Int × Int)) (k : Nat) (hk : k < l.length) :
    (pcs (l.take k) ++ List.replicate ((l.length - k) * 2) (iv 0))[k * 2]? = some (iv 0) ∧ (pcs (l.take k) ++ List.replicate ((l.length - k) * 2) (iv 0))[k * 2 + 1]? = some (iv 0) := by
  have hl : (pcs (l.take k)).length = k * 2 := by rw [pcs_len, List.length_take]; omega
  have e : (l.length - k) * 2 = (l.length - (k + 1)) * 2 + 1 + 1 := by omega
  have e2 : k * 2 + 1 - k * 2 = 0 + 1 := by omega
  rw [e, List.replicate_succ, List.replicate_succ, List.getElem?_append_right (by omega), List.getElem?_append_right (by omega), hl, Nat.sub_self, e2]
  exact ⟨rfl, rfl⟩
theorem prs_end (l : List (Int × Int)) (k : Nat) (hk : l.length ≤ k) : pcs (l.take k) ++ List.replicate ((l.length - k) * 2) (iv 0) = pcs l := by
  rw [List.take_of_length_le hk, Nat.sub_eq_zero_of_le hk, Nat.zero_mul, List.replicate_zero, List.append_nil]

/-- Format k of a list is in range, and in order behind the one ahead of it. -/
def okAt (l : List (Int × Int)) (k : Nat) : Bool :=
  match l[k]? with
  | none => false
  | some (x, y) => (inB x 1 20000 && inB y 1 1000) && (decide (k = 0) || (match l[k - 1]? with | none => false | some (u, v) => decide (x < u) && decide (v < y)))
theorem okAt_range {l : List (Int × Int)} {k : Nat} {x y : Int} (hx : l[k]? = some (x, y)) (h : (inB x 1 20000 && inB y 1 1000) = false) : okAt l k = false := by simp only [okAt, hx, h, Bool.false_and]
theorem okAt_first {l : List (Int × Int)} {k : Nat} {x y : Int} (hx : l[k]? = some (x, y)) (h : (inB x 1 20000 && inB y 1 1000) = true) (hk : k = 0) : okAt l k = true := by
  have h0 : decide (k = 0) = true := decide_eq_true hk
  simp only [okAt, hx, h, h0, Bool.true_or, Bool.and_self]
theorem okAt_next {l : List (Int × Int)} {k : Nat} {x y u v : Int} (hx : l[k]? = some (x, y)) (hp : l[k - 1]? = some (u, v)) (h : (inB x 1 20000 && inB y 1 1000) = true) (hk : 0 < k) : okAt l k = (decide (x < u) && decide (v < y)) := by
  have : k ≠ 0 := by omega
  simp [okAt, hx, hp, h, this]
/-- A list of formats is valid. -/
def fmtsB (l : List (Int × Int)) : Bool := (List.range l.length).all (okAt l) && inB l.length 1 6
theorem fmtsB_bad {l : List (Int × Int)} {k : Nat} (hk : k < l.length) (h : okAt l k = false) : fmtsB l = false := by
  unfold fmtsB
  have : (List.range l.length).all (okAt l) = false := by rw [List.all_eq_false]; exact ⟨k, List.mem_range.2 hk, by simp [h]⟩
  rw [this, Bool.false_and]
theorem fmtsB_end {l : List (Int × Int)} (h : ∀ j, j < l.length → okAt l j = true) : fmtsB l = inB l.length 1 6 := by
  unfold fmtsB
  have : (List.range l.length).all (okAt l) = true := by rw [List.all_eq_true]; intro j hj; exact h j (List.mem_range.1 hj)
  rw [this, Bool.true_and]
theorem fmtsB_long {l : List (Int × Int)} (h : 6 < l.length) : fmtsB l = false := by
  unfold fmtsB; rw [inB_f (by omega), Bool.and_false]
theorem okStep {l : List (Int × Int)} {k : Nat} (h : ∀ j, j < k → okAt l j = true) (hk : okAt l k = true) : ∀ j, j < k + 1 → okAt l j = true := by
  intro j hj
  rcases Nat.lt_or_ge j k with h' | h'
  · exact h j h'
  · have : j = k := by omega
    subst this; exact hk
theorem l1In_qf (x a b : Int) (w : World) (n : Nat) : Calls Try.prog 28 #[.int .i64 x, .int .i64 a, .int .i64 b] (w.drewN n) fun e w' => e = .returned (.bool (inB x a b)) ∧ w' = w.drewN n :=
  (l1In_any x a b _).mono fun _ _ ⟨h1, h2⟩ => ⟨h1, h2.symm⟩
theorem within_qf (x a b : Int) (w : World) (n : Nat) : Calls Try.prog 26 #[.int .i64 x, .int .i64 a, .int .i64 b] (w.drewN n) fun e w' => e = .returned (.bool (inB x a b)) ∧ w' = w.drewN n :=
  (within_any x a b _).mono fun _ _ ⟨h1, h2⟩ => ⟨h1, h2.symm⟩

theorem prs_prev {w : World} {b off : Nat} {l : List (Int × Int)} (h : Prs w (some ⟨b, off, none⟩) l) {k : Nat} (hk : k < l.length) (h0 : 0 < k) :
    ∃ u v, l[k - 1]? = some (u, v) ∧ w.cell? ⟨b, off + (k - 1) * 2, none⟩ = some (.int .i64 u) ∧ w.cell? ⟨b, off + (k - 1) * 2 + 1, none⟩ = some (.int .i64 v) := by
  obtain ⟨b', off', u, v, he, hx, h1, h2⟩ := h.at (k := k - 1) (by omega)
  simp at he
  obtain ⟨rfl, rfl⟩ := he
  exact ⟨u, v, hx, h1, h2⟩

set_option maxHeartbeats 2000000 in
theorem l10Formats_any (p : Option Addr) (cap : Nat) (l : List (Int × Int)) (w : World) (hI : Prs w p l) (hn : l.length ≤ 1048576) :
    Calls Try.prog 27 #[.slice p l.length cap] w fun e w' => e = .returned (.bool (fmtsB l)) ∧ Fresh w w' := by
  go_enter Try.func27, Try.ntmps27
  go_wp2
  go_loopw [3] (fun i wr => ∃ k : Nat, k ≤ l.length ∧ k ≤ 7 ∧ i = .int .i64 k ∧ (∀ j, j < k → okAt l j = true) ∧ Fresh w wr) (fun i _ => l.length - (intOf i).toNat)
  case atStart => exact ⟨0, Nat.zero_le _, by omega, rfl, fun j hj => by omega, frefl _⟩
  case round =>
    obtain ⟨k, hk, hk7, rfl, hall, hf⟩ := hrel
    have HA := Lib.hid hall
    have HF := Lib.hid hf
    clear hall
    by_cases hlt : k < l.length
    · by_cases h6 : k ≤ 6
      · have hI1 := hI.keep hf
        clear hf hI
        obtain ⟨b, off, x, y, rfl, hx, hc0, hc1⟩ := hI1.at hlt
        have hI2 := Lib.hid hI1
        clear hI1
        have hz : (k : Int) < (l.length : Int) := by omega
        have hz1 : (k : Int) - 1 < (l.length : Int) := by omega
        have hz2 : (k : Int) - 1 ≤ (l.length : Int) := by omega
        cases h1 : inB x 1 20000
        · have hr : (inB x 1 20000 && inB y 1 1000) = false := by rw [h1]; rfl
          have HB := Lib.hid (fmtsB_bad hlt (okAt_range hx hr))
          clear hx
          go_wp2
          go_quiet ((go_at_call 28; exact Calls.quiet_of_same (l1In_qf _ _ _ _ _)))
          go_wp2
          go_ret
          exact ⟨ret_bool (by rw [HB.out]), fdrewN (HF.out) _⟩
        · cases h2 : inB y 1 1000
          · have hr : (inB x 1 20000 && inB y 1 1000) = false := by rw [h1, h2]; rfl
            have HB := Lib.hid (fmtsB_bad hlt (okAt_range hx hr))
            clear hx
            go_wp2
            go_quiet ((go_at_call 28; exact Calls.quiet_of_same (l1In_qf _ _ _ _ _)))
            go_wp2
            go_ret
            exact ⟨ret_bool (by rw [HB.out]), fdrewN (HF.out) _⟩
          · have hr : (inB x 1 20000 && inB y 1 1000) = true := by rw [h1, h2]; rfl
            by_cases h3 : 0 < k
            · have hd3 : decide ((0 : Int) < (k : Int)) = true := decide_eq_true (by omega)
              obtain ⟨u, v, hp, hq0, hq1⟩ := prs_prev hI2.out hlt h3
              by_cases h4 : u ≤ x
              · have hd4 : decide (u ≤ x) = true := decide_eq_true h4
                have h5 : okAt l k = false := by rw [okAt_next hx hp hr h3]; simp; omega
                have HB := Lib.hid (fmtsB_bad hlt (h5))
                clear hx hp h5
                go_wp2
                go_quiet ((go_at_call 28; exact Calls.quiet_of_same (l1In_qf _ _ _ _ _)))
                go_wp2
                go_ret
                exact ⟨ret_bool (by rw [HB.out]), fdrewN (HF.out) _⟩
              · have hd4 : decide (u ≤ x) = false := decide_eq_false h4
                by_cases h6 : y ≤ v
                · have hd6 : decide (y ≤ v) = true := decide_eq_true h6
                  have h5 : okAt l k = false := by rw [okAt_next hx hp hr h3]; simp; omega
                  have HB := Lib.hid (fmtsB_bad hlt (h5))
                  clear hx hp h5
                  go_wp2
                  go_quiet ((go_at_call 28; exact Calls.quiet_of_same (l1In_qf _ _ _ _ _)))
                  go_wp2
                  go_ret
                  exact ⟨ret_bool (by rw [HB.out]), fdrewN (HF.out) _⟩
                · have hd6 : decide (y ≤ v) = false := decide_eq_false h6
                  have h5 : okAt l k = true := by rw [okAt_next hx hp hr h3]; simp; omega
                  have HB := Lib.hid (okStep HA.out (h5))
                  clear hx hp h5
                  go_wp2
                  go_quiet ((go_at_call 28; exact Calls.quiet_of_same (l1In_qf _ _ _ _ _)))
                  go_wp2
                  go_roundw
                  case rel => exact ⟨k + 1, by omega, by omega, by go_num, HB.out, fdrewN (HF.out) _⟩
                  case measure => simp [intOf]; omega
            · have hd3 : decide ((0 : Int) < (k : Int)) = false := decide_eq_false (by omega)
              have h5 : okAt l k = true := okAt_first hx hr (by omega)
              have HB := Lib.hid (okStep HA.out (h5))
              clear hx h5
              go_wp2
              go_quiet ((go_at_call 28; exact Calls.quiet_of_same (l1In_qf _ _ _ _ _)))
              go_wp2
              go_roundw
              case rel => exact ⟨k + 1, by omega, by omega, by go_num, HB.out, fdrewN (HF.out) _⟩
              case measure => simp [intOf]; omega

      · have HB := Lib.hid (fmtsB_long (l := l) (by omega))
        clear hf
        have h40 : (6 : Int) < (l.length : Int) := by omega
        have hin := Lib.hid (inB_f (x := (l.length : Int)) (a := 1) (b := 6) (by omega))
        go_wp2_with (go_at_call 28; refine (l1In_any _ _ _ _).mono ?_; rintro e w' ⟨rfl, rfl⟩)
        go_ret
        exact ⟨ret_bool (by rw [HB.out]; exact hin.out), HF.out⟩
    · have hkn : k = l.length := by omega
      have HB := Lib.hid (fmtsB_end (l := l) (by rw [← hkn]; exact HA.out))
      clear hf
      subst hkn
      go_wp2_with (go_at_call 28; refine (l1In_any _ _ _ _).mono ?_; rintro e w' ⟨rfl, rfl⟩)
      go_ret
      exact ⟨ret_bool (by rw [HB.out]), HF.out⟩

set_option maxHeartbeats 2000000 in
theorem implIsValidFormats_any (p : Option Addr) (cap : Nat) (l : List (Int × Int)) (w : World) (hI : Prs w p l) (hn : l.length ≤ 1048576) :
    Calls Try.prog 9 #[.slice p l.length cap] w fun e w' => e = .returned (.bool (fmtsB l)) ∧ Fresh w w' := by
  go_enter Try.func9, Try.ntmps9
  go_wp2
  go_loopw [7] (fun i wr => ∃ k : Nat, k ≤ l.length ∧ i = .int .i64 k ∧ (∀ j, j < k → okAt l j = true) ∧ Fresh w wr) (fun i _ => l.length - (intOf i).toNat)
  case atStart => exact ⟨0, Nat.zero_le _, rfl, fun j hj => by omega, frefl _⟩
  case round =>
    obtain ⟨k, hk, rfl, hall, hf⟩ := hrel
    have HA := Lib.hid hall
    have HF := Lib.hid hf
    clear hall
    by_cases hlt : k < l.length
    · have hI1 := hI.keep hf
      clear hf hI
      obtain ⟨b, off, x, y, rfl, hx, hc0, hc1⟩ := hI1.at hlt
      have hbl : b < wr.heap.size := World.block_lt_of_cell? wr _ hc0
      have hI2 := Lib.hid hI1
      clear hI1
      have hz : (k : Int) < (l.length : Int) := by omega
      have hz1 : (k : Int) - 1 < (l.length : Int) := by omega
      have hz2 : (k : Int) - 1 ≤ (l.length : Int) := by omega
      cases h1 : inB x 1 20000
      · have hr : (inB x 1 20000 && inB y 1 1000) = false := by rw [h1]; rfl
        have HB := Lib.hid (fmtsB_bad hlt (okAt_range hx hr))
        clear hx
        go_wp2
        go_quiet ((go_at_call 26; exact Calls.quiet_of_same (within_qf _ _ _ _ _)))
        go_wp2
        go_ret
        exact ⟨ret_bool (by rw [HB.out]), fdrewN (fnew HF.out _) _⟩
      · cases h2 : inB y 1 1000
        · have hr : (inB x 1 20000 && inB y 1 1000) = false := by rw [h1, h2]; rfl
          have HB := Lib.hid (fmtsB_bad hlt (okAt_range hx hr))
          clear hx
          go_wp2
          go_quiet ((go_at_call 26; exact Calls.quiet_of_same (within_qf _ _ _ _ _)))
          go_wp2
          go_ret
          exact ⟨ret_bool (by rw [HB.out]), fdrewN (fnew HF.out _) _⟩
        · have hr : (inB x 1 20000 && inB y 1 1000) = true := by rw [h1, h2]; rfl
          by_cases h3 : 0 < k
          · have hd3 : decide ((0 : Int) < (k : Int)) = true := decide_eq_true (by omega)
            obtain ⟨u, v, hp, hq0, hq1⟩ := prs_prev hI2.out hlt h3
            by_cases h4 : u ≤ x
            · have hd4 : decide (u ≤ x) = true := decide_eq_true h4
              have h5 : okAt l k = false := by rw [okAt_next hx hp hr h3]; simp; omega
              have HB := Lib.hid (fmtsB_bad hlt (h5))
              clear hx hp h5
              go_wp2
              go_quiet ((go_at_call 26; exact Calls.quiet_of_same (within_qf _ _ _ _ _)))
              go_wp2
              go_ret
              exact ⟨ret_bool (by rw [HB.out]), fdrewN (fnew HF.out _) _⟩
            · have hd4 : decide (u ≤ x) = false := decide_eq_false h4
              by_cases h6 : y ≤ v
              · have hd6 : decide (y ≤ v) = true := decide_eq_true h6
                have h5 : okAt l k = false := by rw [okAt_next hx hp hr h3]; simp; omega
                have HB := Lib.hid (fmtsB_bad hlt (h5))
                clear hx hp h5
                go_wp2
                go_quiet ((go_at_call 26; exact Calls.quiet_of_same (within_qf _ _ _ _ _)))
                go_wp2
                go_ret
                exact ⟨ret_bool (by rw [HB.out]), fdrewN (fnew HF.out _) _⟩
              · have hd6 : decide (y ≤ v) = false := decide_eq_false h6
                have h5 : okAt l k = true := by rw [okAt_next hx hp hr h3]; simp; omega
                have HB := Lib.hid (okStep HA.out (h5))
                clear hx hp h5
                go_wp2
                go_quiet ((go_at_call 26; exact Calls.quiet_of_same (within_qf _ _ _ _ _)))
                go_wp2
                go_roundw
                case rel => exact ⟨k + 1, by omega, by go_num, HB.out, fdrewN (fnew HF.out _) _⟩
                case measure => simp [intOf]; omega
          · have hd3 : decide ((0 : Int) < (k : Int)) = false := decide_eq_false (by omega)
            have h5 : okAt l k = true := okAt_first hx hr (by omega)
            have HB := Lib.hid (okStep HA.out (h5))
            clear hx h5
            go_wp2
            go_quiet ((go_at_call 26; exact Calls.quiet_of_same (within_qf _ _ _ _ _)))
            go_wp2
            go_roundw
            case rel => exact ⟨k + 1, by omega, by go_num, HB.out, fdrewN (fnew HF.out _) _⟩
            case measure => simp [intOf]; omega

    · have hkn : k = l.length := by omega
      have HB := Lib.hid (fmtsB_end (l := l) (by rw [← hkn]; exact HA.out))
      clear hf
      subst hkn
      go_wp2_with (go_at_call 26; refine (within_any _ _ _ _).mono ?_; rintro e w' ⟨rfl, rfl⟩)
      go_ret
      exact ⟨ret_bool (by rw [HB.out]), HF.out⟩
end Go.Proofs.Ytnhjacaiggghnaa
