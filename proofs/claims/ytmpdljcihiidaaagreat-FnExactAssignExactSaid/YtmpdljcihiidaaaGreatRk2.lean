/- Contracts: a result that is a list of blocks, compared, marked, asked again. -/
import Derived.Test.YtmpdljcihiidaaaGreatRp
namespace Go.Proofs.YtmpdljcihiidaaaGreat
open Go.RowKit Go.PlainAid

set_option maxHeartbeats 1000000 in
theorem markBlockS_any (p : Option Addr) (cap base : Nat) (l : List (Int × Int)) (k0 : Int) (w : World) (ho : Own w base 71 p (pcs l)) (hn : l.length ≤ 1099511627776) (h0 : 0 ≤ k0) (h1 : k0 ≤ 1099511627776) :
    Calls Tryz.prog 20 #[.slice p l.length cap, .int .i64 k0] w fun e w' => e = .returned (.int .i64 (k0 + 2 * (l.length : Int))) ∧ Own w' base 71 p (pcs (marks2 k0 l.length)) ∧ Below base w w' := by
  go_enter Tryz.func20, Tryz.ntmps20
  go_wp2
  go_loopw [1, 5] (fun kk i wr => ∃ j : Nat, j ≤ l.length ∧ i = .int .i64 j ∧ kk = .int .i64 (k0 + 2 * (j : Int)) ∧ Own wr base 71 p (pcs (marks2 k0 j ++ l.drop j)) ∧ Below base w wr) (fun _ i _ => l.length - (intOf i).toNat)
  case atStart => exact ⟨0, Nat.zero_le _, rfl, by simp, by simpa [marks2] using ho, Below.refl _ _⟩
  case round =>
    obtain ⟨j, hj, rfl, rfl, hown, hb⟩ := hrel
    have HB := Lib.hid hb
    clear hb ho
    by_cases hlt : j < l.length
    · rcases hown with ⟨_, hnil⟩ | ⟨g, sp, rfl, hg, hr⟩
      · exfalso
        have := congrArg List.length hnil
        rw [pcs_len] at this
        simp [marks2_len] at this
        omega
      · obtain ⟨e0, e1⟩ := get_marks2 k0 l sp j hlt
        have hc0 := hr.cell e0
        have hc1 := hr.cell e1
        have hf0 := hr.frozen (j * 2)
        have hf1 := hr.frozen (j * 2 + 1)
        have HR := Lib.hid hr
        clear hr e0 e1
        go_wp2
        go_roundw
        case rel =>
          refine ⟨j + 1, by omega, by go_num, by go_num, Or.inr ⟨g, sp, rfl, hg, ?_⟩, (HB.out.setCell hg _).setCell hg _⟩
          have := (HR.out.set (j * 2) (iv (k0 + 2 * (j : Int)))).set (j * 2 + 1) (iv (k0 + 2 * (j : Int) + 1))
          rw [set_marks2 k0 l sp j hlt _ _ rfl rfl] at this
          exact this
        case measure => simp [intOf]; omega
    · have hjn : j = l.length := by omega
      subst hjn
      have HO := Lib.hid hown
      clear hown
      go_wp2
      go_ret
      refine ⟨rfl, ?_, HB.out⟩
      have := HO.out
      simpa using this

set_option maxHeartbeats 1000000 in
theorem heldBlockS_any (p : Option Addr) (cap n : Nat) (k0 : Int) (w : World) (hI : Prs w p (marks2 k0 n)) (hn : n ≤ 1099511627776) (h0 : 0 ≤ k0) (h1 : k0 ≤ 1099511627776) :
    Calls Tryz.prog 21 #[.slice p n cap, .int .i64 k0] w fun e w' => e = .returned (.int .i64 (k0 + 2 * (n : Int))) ∧ w = w' := by
  go_enter Tryz.func21, Tryz.ntmps21
  go_wp2
  go_loop [1, 5] (fun kk i => ∃ j : Nat, j ≤ n ∧ i = .int .i64 j ∧ kk = .int .i64 (k0 + 2 * (j : Int))) (fun _ i => n - (intOf i).toNat)
  case atStart => exact ⟨0, Nat.zero_le _, rfl, by simp⟩
  case round =>
    obtain ⟨j, hj, rfl, rfl⟩ := hrel
    by_cases hlt : j < n
    · obtain ⟨b, off, x, y, rfl, hx, hc0, hc1⟩ := hI.at (k := j) (by rw [marks2_len]; exact hlt)
      obtain ⟨rfl, rfl⟩ := marks2_get hx
      clear hx hI
      go_wp2
      go_round
      case rel => exact ⟨j + 1, by omega, by go_num, by go_num⟩
      case measure => simp [intOf]; omega
    · have hjn : j = n := by omega
      subst hjn
      go_wp2
      go_ret
      exact ⟨rfl, rfl⟩
theorem eqBlockS_r (p q : Option Addr) (c d : Nat) (l : List (Int × Int)) (w : World) (hx : Cells w p (pcs l)) (hy : Cells w q (pcs l)) (hn : l.length ≤ 1048576) :
    Calls Tryz.prog 15 #[.slice p l.length c, .slice q l.length d] w fun e w' => e = .returned (.bool true) ∧ Fresh w w' := eqBlockS_same p q c d l w hx hy (by omega)
theorem markBlockS_r (p : Option Addr) (cap base : Nat) (l : List (Int × Int)) (k0 : Int) (w : World) (ho : Own w base 71 p (pcs l)) (hn : l.length ≤ 1048576) (h0 : 0 ≤ k0) (h1 : k0 ≤ 1099511627776) :
    Calls Tryz.prog 20 #[.slice p l.length cap, .int .i64 k0] w fun e w' => e = .returned (.int .i64 (k0 + 2 * (l.length : Int))) ∧ Own w' base 71 p (pcs (marks2 k0 l.length)) ∧ Below base w w' := markBlockS_any p cap base l k0 w ho (by omega) h0 h1
theorem heldBlockS_o (p : Option Addr) (cap base n : Nat) (k0 : Int) (w : World) (ho : Own w base 71 p (pcs (marks2 k0 n))) (hn : n ≤ 1048576) (h0 : 0 ≤ k0) (h1 : k0 ≤ 1099511627776) :
    Calls Tryz.prog 21 #[.slice p n cap, .int .i64 k0] w fun e w' => e = .returned (.int .i64 (k0 + 2 * (n : Int))) ∧ Fresh w w' :=
  (heldBlockS_any p cap n k0 w ho.cells (by omega) h0 h1).mono fun e w' h => ⟨h.1, by rw [← h.2]; exact frefl _⟩
end Go.Proofs.YtmpdljcihiidaaaGreat
