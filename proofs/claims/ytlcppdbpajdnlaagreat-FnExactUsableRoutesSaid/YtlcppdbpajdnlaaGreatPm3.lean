/- Contracts: a result that is a plan, compared, marked, asked again. -/
import Derived.Test.YtlcppdbpajdnlaaGreatPm2
namespace Go.Proofs.YtlcppdbpajdnlaaGreat
open Go.RowKit Go.PlainAid

def SmPl (P : PlanV) : Prop := PlSmall P ∧ P.lights.length ≤ 1024
theorem lts_small {l : List LL} {P : PlanV} (h : P.lights = l.map LL.val) (hs : PlSmall P) : LtsSmall l := by
  obtain ⟨_, h1, h2⟩ := hs
  rw [h] at h1 h2
  exact ⟨by simpa using h1, fun x hx => h2 x.val (List.mem_map_of_mem hx)⟩
set_option maxHeartbeats 1000000 in
theorem markNetwork_p (q p : Option Addr) (c d nn nf base : Nat) (k0 : Int) (w : World) (hq : RowN w base 9 q nn) (hp : RowN w base 101 p (nf * 4)) (hbs : base ≤ w.heap.size) (h1 : nn ≤ 1048576) (h2 : nf ≤ 1048576) (h0 : 0 ≤ k0) (h3 : k0 ≤ 1024) :
    Calls Tryz.prog 18 #[.agg #[.slice q nn c, .slice p nf d], .int .i64 k0] w fun e w' => e = .returned (.int .i64 (k0 + nn + 4 * nf)) ∧ MkRow w' base 9 q nn (fun t => .string (mtxt (k0 + (t : Int)))) ∧ MkRow w' base 101 p (nf * 4) (fun t => iv (k0 + nn + (t : Int))) ∧
      Below base w w' ∧ (∀ g t cs, RowAt w g t cs → t ≠ 9 → t ≠ 101 → RowAt w' g t cs) := by
  obtain ⟨W1, hW1⟩ : ∃ W1, W1 = w.alloc (.cells #[.slice q nn c, .slice p nf d] 37) := ⟨_, rfl⟩
  have hf : Fresh w W1 := by rw [hW1]; exact fnew (frefl _) _
  have hr : RowAt W1 w.heap.size 37 [.slice q nn c, .slice p nf d] := by rw [hW1]; exact RowAt.new _ _ _
  have HF := Lib.hid hf
  have HR := Lib.hid hr
  have HW := Lib.hid hW1
  have hbs1 : base ≤ W1.heap.size := Nat.le_trans hbs hf.size
  have k1 : RowN W1 base 9 q nn := by
    rcases hq with h | ⟨g, cs, a1, a2, a3, a4⟩
    · exact Or.inl h
    · exact Or.inr ⟨g, cs, a1, a2, a3.keep hf, a4⟩
  have k2 : RowN W1 base 101 p (nf * 4) := by
    rcases hp with h | ⟨g, cs, a1, a2, a3, a4⟩
    · exact Or.inl h
    · exact Or.inr ⟨g, cs, a1, a2, a3.keep hf, a4⟩
  have HP := Lib.hid k2
  have HC := Lib.hid (markStringS_p q c nn base k0 W1 k1 hbs1 h1 h0 (by omega))
  clear hW1 hf hr hq hp k1 k2
  go_enter Tryz.func18, Tryz.ntmps18
  go_wp2_with fail
  rw [← HW.out]
  refine (HC.out).mono ?_
  rintro e w1 ⟨rfl, hm1, hi1, hk1⟩
  have HM1 := Lib.hid hm1
  have HK1 := Lib.hid hk1
  have d1 := (hk1.row _ _ _ HR.out (by decide)).cell (i := 1) rfl
  have HC2 := Lib.hid (markFiberS_p p d nf base (k0 + nn) w1 (HP.out.typ hk1 (by decide)) h2 (by omega) (by omega))
  clear hm1 hk1
  go_wp2_with fail
  refine (HC2.out).mono ?_
  rintro e w2 ⟨rfl, hm2, hi2, hk2⟩
  have HM2 := Lib.hid hm2
  have HK2 := Lib.hid hk2
  clear hm2 hk2 d1
  go_wp2
  go_ret
  exact ⟨rfl, HM1.out.typ HK2.out (by decide), HM2.out, (HF.out.mono hbs).trans (HK1.out.low.trans HK2.out.low), fun g t cs h n1 n2 => HK2.out.row _ _ _ (HK1.out.row _ _ _ (h.keep HF.out) n1) n2⟩
end Go.Proofs.YtlcppdbpajdnlaaGreat
