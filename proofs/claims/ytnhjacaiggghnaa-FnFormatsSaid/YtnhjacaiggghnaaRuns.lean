/- Contracts: the free runs of a mask, on both sides. -/
import Derived.Test.YtnhjacaiggghnaaPairs
import Derived.Test.YtnhjacaiggghnaaMk
namespace Go.Proofs.Ytnhjacaiggghnaa
open Go.RowKit

theorem infoBlk : (Try.prog.info? 42).map (fun i => (i.zero, i.size, i.bytes)) = some (some (.agg #[.int .i64 0, .int .i64 0]), 2, 16) := by kernel_rfl
/-- Slot k is there and free. -/
def freeS (m : Int) (k : Nat) : Bool := decide (k < 24) && (bits BinOp.and IntKind.i64 (m / 2 ^ k) 1 == 0)
theorem freeS_of {m : Int} {k : Nat} {b : Bool} (h : k < 24) (hb : (bits BinOp.and IntKind.i64 (m / 2 ^ k) 1 == 0) = b) : freeS m k = b := by simp [freeS, h, hb]
theorem freeS_end {m : Int} {k : Nat} (h : ¬ k < 24) : freeS m k = false := by simp [freeS, h]
/-- The runs that end ahead of slot k, and how many slots ahead of k are free in a row. -/
def runsTo (m : Int) : Nat → List (Int × Int) × Nat
  | 0 => ([], 0)
  | k + 1 => if freeS m k then ((runsTo m k).1, (runsTo m k).2 + 1) else (if (runsTo m k).2 = 0 then (runsTo m k).1 else (runsTo m k).1 ++ [((k : Int) - ((runsTo m k).2 : Int), ((runsTo m k).2 : Int))], 0)
def runs (m : Int) : List (Int × Int) := (runsTo m 25).1
theorem runsTo_free {m : Int} {k : Nat} {l : List (Int × Int)} {c : Nat} (h : runsTo m k = (l, c)) (hf : freeS m k = true) : runsTo m (k + 1) = (l, c + 1) := by simp [runsTo, h, hf]
theorem runsTo_same {m : Int} {k : Nat} {l : List (Int × Int)} (h : runsTo m k = (l, 0)) (hf : freeS m k = false) : runsTo m (k + 1) = (l, 0) := by simp [runsTo, h, hf]
theorem runsTo_run {m : Int} {k : Nat} {l : List (Int × Int)} {c : Nat} (h : runsTo m k = (l, c)) (hf : freeS m k = false) (hc : 0 < c) : runsTo m (k + 1) = (l ++ [((k : Int) - (c : Int), (c : Int))], 0) := by
  have : c ≠ 0 := by omega
  simp [runsTo, h, hf, this]
theorem runsTo_le (m : Int) : ∀ (k : Nat) {l : List (Int × Int)} {c : Nat}, runsTo m k = (l, c) → l.length ≤ k ∧ c ≤ k := by
  intro k
  induction k with
  | zero => intro l c h; simp [runsTo] at h; obtain ⟨rfl, rfl⟩ := h; simp
  | succ k ih =>
    intro l c h
    rcases hr : runsTo m k with ⟨l', c'⟩
    obtain ⟨i1, i2⟩ := ih hr
    cases hf : freeS m k
    · rcases Nat.eq_zero_or_pos c' with rfl | hc
      · rw [runsTo_same hr hf] at h; simp at h; obtain ⟨rfl, rfl⟩ := h; omega
      · rw [runsTo_run hr hf hc] at h; simp only [Prod.mk.injEq] at h; obtain ⟨rfl, rfl⟩ := h; simp; omega
    · rw [runsTo_free hr hf] at h; simp at h; obtain ⟨rfl, rfl⟩ := h; omega
theorem runs_end {m : Int} {k : Nat} {l : List (Int × Int)} (h : runsTo m k = (l, 0)) (h1 : 24 ≤ k) (h2 : k ≤ 25) : runs m = l := by
  unfold runs
  rcases Nat.eq_or_lt_of_le h2 with rfl | h3
  · rw [h]
  · have : k = 24 := by omega
    subst this
    rw [runsTo_same h (freeS_end (by omega))]
theorem runs_len (m : Int) : (runs m).length ≤ 25 := by
  unfold runs
  exact (runsTo_le m 25 (l := (runsTo m 25).1) (c := (runsTo m 25).2) rfl).1

/-- The call hands back a slice of blocks of its own. -/
def OutBlks (w : World) (L : List (Int × Int)) (e : Ending) (w' : World) : Prop := ∃ p cap, e = .returned (.slice p L.length cap) ∧ Own w' w.heap.size 42 p (pcs L) ∧ Fresh w w'
def OutBlksB (w : World) (L : List (Int × Int)) (b : Bool) (e : Ending) (w' : World) : Prop := ∃ p cap, e = .returned (.tuple #[.slice p L.length cap, .bool b]) ∧ Own w' w.heap.size 42 p (pcs L) ∧ Fresh w w'

set_option maxHeartbeats 1000000 in
theorem freeRuns_any (m : Int) (w : World) (_h0 : 0 ≤ m) :
    Calls Try.prog 36 #[.int .i64 m] w (OutBlks w (runs m)) := by
  go_enter Try.func36, Try.ntmps36
  go_wp2
  go_loopw [3, 4] (fun v s wr => ∃ (k : Nat) (l : List (Int × Int)), k ≤ 25 ∧ s = .int .i64 k ∧ runsTo m k = (l, 0) ∧ wr.ownsRow w.heap.size 42 2 v l.length (pcs l) ∧ Fresh w wr) (fun _ s _ => 25 - (intOf s).toNat)
  case atStart => exact ⟨0, [], by omega, rfl, rfl, World.ownsRow_made w #[] 0 (Nat.le_refl _) (by simp [maxLen]) rfl, fnew (frefl _) _⟩
  case round =>
    obtain ⟨k, l, hk, rfl, hl, hown, hf⟩ := hrel
    have HF := Lib.hid hf
    have hle := (runsTo_le m k hl).1
    have HL := Lib.hid hl
    have HO := Lib.hid hown
    clear hf hl hown
    by_cases hlt : k < 24
    · obtain ⟨wo, rfl⟩ : ∃ wo : World, wo = wr := ⟨_, rfl⟩
      go_wp2
      go_loop [4] (fun s => ∃ j : Nat, k ≤ j ∧ j ≤ 24 ∧ s = .int .i64 j ∧ runsTo m j = (l, j - k)) (fun s => 24 - (intOf s).toNat)
      case atStart => exact ⟨k, Nat.le_refl _, by omega, rfl, by rw [Nat.sub_self]; exact HL.out⟩
      case round =>
        obtain ⟨j, hkj, hj, rfl, hr⟩ := hrel
        have HR := Lib.hid hr
        clear hr
        cases hfr : freeS m j
        · have HS := Lib.hid hfr
          by_cases hgt : k < j
          · by_cases h24 : j < 24
            · have hd : decide ((j : Int) < 24) = true := decide_eq_true (by omega)
              have ht : (bits BinOp.and IntKind.i64 (m / 2 ^ j) 1 == 0) = false := by simpa [freeS, h24] using hfr
              clear hfr
              go_wp2_with (at_builtin; refine wpList_app_prs Try.underlying36 infoBlk w _ _ l k ((j : Int) - k) rfl _ _ rfl rfl HO.out rfl (by omega) HF.out ?_; intro v' w2 hown2 hf2)
              have HO2 := Lib.hid hown2
              have HF2 := Lib.hid hf2
              clear hown2 hf2
              go_wp2
              go_roundw
              case rel =>
                refine ⟨j + 1, l ++ [((k : Int), (j : Int) - k)], by omega, by go_num, ?_, HO2.out, HF2.out⟩
                have e := runsTo_run HR.out HS.out (by omega)
                have e1 : (j : Int) - ((j - k : Nat) : Int) = k := by omega
                have e2 : ((j - k : Nat) : Int) = (j : Int) - k := by omega
                rw [e1, e2] at e
                exact e
              case measure => simp [intOf]; omega
            · clear hfr
              go_wp2_with (at_builtin; refine wpList_app_prs Try.underlying36 infoBlk w _ _ l k ((j : Int) - k) rfl _ _ rfl rfl HO.out rfl (by omega) HF.out ?_; intro v' w2 hown2 hf2)
              have HO2 := Lib.hid hown2
              have HF2 := Lib.hid hf2
              clear hown2 hf2
              go_wp2
              go_roundw
              case rel =>
                refine ⟨j + 1, l ++ [((k : Int), (j : Int) - k)], by omega, by go_num, ?_, HO2.out, HF2.out⟩
                have e := runsTo_run HR.out HS.out (by omega)
                have e1 : (j : Int) - ((j - k : Nat) : Int) = k := by omega
                have e2 : ((j - k : Nat) : Int) = (j : Int) - k := by omega
                rw [e1, e2] at e
                exact e
              case measure => simp [intOf]; omega
          · have hjk : j = k := by omega
            subst hjk
            by_cases h24 : j < 24
            · have hd : decide ((j : Int) < 24) = true := decide_eq_true (by omega)
              have ht : (bits BinOp.and IntKind.i64 (m / 2 ^ j) 1 == 0) = false := by simpa [freeS, h24] using hfr
              clear hfr
              go_wp2
              go_roundw
              case rel => exact ⟨j + 1, l, by omega, by go_num, runsTo_same HL.out HS.out, HO.out, HF.out⟩
              case measure => simp [intOf]; omega
            · omega
        · have HS := Lib.hid hfr
          have h24 : j < 24 := by
            rcases Nat.lt_or_ge j 24 with h | h
            · exact h
            · rw [freeS_end (by omega)] at hfr; cases hfr
          have hd : decide ((j : Int) < 24) = true := decide_eq_true (by omega)
          have ht : (bits BinOp.and IntKind.i64 (m / 2 ^ j) 1 == 0) = true := by simpa [freeS, h24] using hfr
          clear hfr
          go_wp2
          go_round
          case rel =>
            refine ⟨j + 1, by omega, by omega, by go_num, ?_⟩
            rw [show j + 1 - k = (j - k) + 1 by omega]
            exact runsTo_free HR.out HS.out
          case measure => simp [intOf]; omega
    · obtain ⟨p, cap, rfl, ho⟩ := own_of_row HO.out
      have HO2 := Lib.hid ho
      clear ho
      have HE := Lib.hid (runs_end HL.out (by omega) hk)
      go_wp2
      go_ret
      rw [HE.out]
      exact ⟨p, cap, rfl, HO2.out, HF.out⟩
end Go.Proofs.Ytnhjacaiggghnaa
