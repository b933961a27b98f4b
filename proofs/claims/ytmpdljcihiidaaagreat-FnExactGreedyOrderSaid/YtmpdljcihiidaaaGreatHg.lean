/- Contracts: the height of blocks of which some may be none, both sides. -/
import Derived.Test.YtmpdljcihiidaaaGreatU5
namespace Go.Proofs.YtmpdljcihiidaaaGreat
open Go.RowKit Go.PlainAid

/-- Blocks within the slots; some may be none. -/
def BSm (B : List (Int × Int)) : Prop := ∀ b ∈ B, 0 ≤ b.1 ∧ 0 ≤ b.2 ∧ b.1 + b.2 ≤ 24
theorem heightW_bd {B : List (Int × Int)} (h : BSm B) (k : Nat) : 0 ≤ heightTo (B.take k) ∧ heightTo (B.take k) ≤ 24 := by
  induction k with
  | zero => simp [heightTo]
  | succ k ih =>
    rcases Nat.lt_or_ge k B.length with hk | hk
    · have hb := List.getElem?_eq_getElem hk
      obtain ⟨h1, h2, h3⟩ := h _ (List.getElem_mem hk)
      rw [height_step hb]; omega
    · rw [List.take_of_length_le (by omega)]; rw [List.take_of_length_le (by omega)] at ih; exact ih

set_option maxHeartbeats 1000000 in
theorem l12Height_w (pb : Option Addr) (cb : Nat) (B : List (Int × Int)) (w : World) (hB : Prs w pb B) (hg : BSm B) (hbn : B.length ≤ 1048576) :
    Calls Tryz.prog 157 #[.slice pb B.length cb] w fun e w' => e = .returned (.int .i64 (heightTo B)) ∧ Fresh w w' := by
  have HG := Lib.hid hg
  have HB := Lib.hid hB
  clear hg hB
  go_enter Tryz.func157, Tryz.ntmps157
  go_wp2
  go_loopw [3, 4] (fun a j wr => ∃ k : Nat, k ≤ B.length ∧ j = .int .i64 k ∧ a = .int .i64 (heightTo (B.take k)) ∧ Fresh w wr) (fun _ j _ => B.length - (intOf j).toNat)
  case atStart => exact ⟨0, Nat.zero_le _, rfl, rfl, frefl _⟩
  case round =>
    obtain ⟨k, hk, rfl, rfl, hf⟩ := hrel
    have HF := Lib.hid hf
    clear hf
    by_cases hlt : k < B.length
    · have hltz : (k : Int) < (B.length : Int) := by omega
      obtain ⟨b3, o3, f, c, hp3, hbk, d0, d1⟩ := (HB.out.keep HF.out).at hlt
      subst hp3
      obtain ⟨g1, g2, g3⟩ := HG.out _ (List.mem_of_getElem? hbk)
      have HST := Lib.hid (height_step hbk)
      obtain ⟨h1, h2⟩ := heightW_bd HG.out k
      obtain ⟨H, hH⟩ : ∃ H, H = heightTo (B.take k) := ⟨_, rfl⟩
      rw [← hH] at h1 h2 HST ⊢
      simp only at g1 g2 g3
      have k0 := fun xa : After wr => akeep d0 xa
      have k1 := fun xa : After wr => akeep d1 xa
      have hsum : IntKind.i64.wrap (f + c) = f + c := by rw [IntKind.wrap_i64]; omega
      have HSUM := Lib.hid hsum
      clear hbk hH
      go_wp2
      refine wp_region_after (by kernel_rfl) (by kernel_rfl) ?_
      repeat (go_big_quiet_step ((go_at_call 168; exact after_same (l1Most_k _ _ _))))
      refine wpQuiet_nil ?_
      rintro _ ⟨xa, rfl⟩
      go_wp2
      go_roundw
      case rel => exact ⟨k + 1, by omega, by go_num, by rw [HST.out], fstep HF.out xa.h⟩
      case measure => simp [intOf]; omega
    · have hkn : k = B.length := by omega
      have hltz : ¬ (k : Int) < (B.length : Int) := by omega
      subst hkn
      go_wp2
      go_ret
      exact ⟨by simp, HF.out⟩


set_option maxHeartbeats 1000000 in
theorem heightOf_w (pb : Option Addr) (cb : Nat) (B : List (Int × Int)) (w : World) (hB : Prs w pb B) (hg : BSm B) (hbn : B.length ≤ 1048576) :
    Calls Tryz.prog 84 #[.slice pb B.length cb] w fun e w' => e = .returned (.int .i64 (heightTo B)) ∧ Fresh w w' := by
  have HG := Lib.hid hg
  have HB := Lib.hid hB
  clear hg hB
  go_enter Tryz.func84, Tryz.ntmps84
  go_wp2
  go_loopw [3, 8] (fun a j wr => ∃ k : Nat, k ≤ B.length ∧ j = .int .i64 k ∧ a = .int .i64 (heightTo (B.take k)) ∧ Fresh w wr) (fun _ j _ => B.length - (intOf j).toNat)
  case atStart => exact ⟨0, Nat.zero_le _, rfl, rfl, frefl _⟩
  case round =>
    obtain ⟨k, hk, rfl, rfl, hf⟩ := hrel
    have HF := Lib.hid hf
    clear hf
    by_cases hlt : k < B.length
    · have hltz : (k : Int) < (B.length : Int) := by omega
      obtain ⟨b3, o3, f, c, hp3, hbk, d0, d1⟩ := (HB.out.keep HF.out).at hlt
      subst hp3
      obtain ⟨g1, g2, g3⟩ := HG.out _ (List.mem_of_getElem? hbk)
      have HST := Lib.hid (height_step hbk)
      obtain ⟨h1, h2⟩ := heightW_bd HG.out k
      obtain ⟨H, hH⟩ : ∃ H, H = heightTo (B.take k) := ⟨_, rfl⟩
      rw [← hH] at h1 h2 HST ⊢
      simp only at g1 g2 g3
      clear hbk hH
      go_wp2
      go_roundw
      case rel => exact ⟨k + 1, by omega, by go_num, by first | (rw [HST.out]; done) | (rw [HST.out]; congr 1; rw [Int.max_def]; split <;> split <;> omega), fnew HF.out _⟩
      case measure => simp [intOf]; omega
    · have hkn : k = B.length := by omega
      have hltz : ¬ (k : Int) < (B.length : Int) := by omega
      subst hkn
      go_wp2
      go_ret
      exact ⟨by simp, HF.out⟩


end Go.Proofs.YtmpdljcihiidaaaGreat
