/- Contracts: numbers laid into a slice of the call's own, and asked for again (ints). -/
import Derived.Test.YtkafmhgnbfofjaaInts
namespace Go.Proofs.Ytkafmhgnbfofjaa
open Go.RowKit

/-- The numbers from k on. -/
def marks (k : Int) (n : Nat) : List Int := (List.range n).map fun (j : Nat) => k + (j : Int)
theorem marks_len (k : Int) (n : Nat) : (marks k n).length = n := by simp [marks]
theorem marks_succ (k : Int) (n : Nat) : marks k (n + 1) = marks k n ++ [k + (n : Int)] := by simp [marks, List.range_succ]
theorem marks_get {k : Int} {n j : Nat} {x : Int} (h : (marks k n)[j]? = some x) : x = k + (j : Int) := by
  have hj : j < n := by
    rcases Nat.lt_or_ge j n with h' | h'
    · exact h'
    · rw [List.getElem?_eq_none (by rw [marks_len]; exact h')] at h; cases h
  simp [marks, hj] at h
  exact h.symm
theorem set_marks (k : Int) (xs : List Int) (sp : List Value) (j : Nat) (hj : j < xs.length) :
    ((marks k j ++ xs.drop j).map iv ++ sp).set j (iv (k + (j : Int))) = (marks k (j + 1) ++ xs.drop (j + 1)).map iv ++ sp := by
  have hl : ((marks k j).map iv).length = j := by simp [marks_len]
  rw [List.drop_eq_getElem_cons hj, List.map_append, List.map_cons, List.append_assoc, List.set_append, if_neg (by omega), hl, Nat.sub_self, List.cons_append, List.set_cons_zero, marks_succ]
  simp
theorem get_marks (k : Int) (xs : List Int) (sp : List Value) (j : Nat) (hj : j < xs.length) : ((marks k j ++ xs.drop j).map iv ++ sp)[j]? = some (iv xs[j]) := by
  have hl : ((marks k j).map iv).length = j := by simp [marks_len]
  rw [List.drop_eq_getElem_cons hj, List.map_append, List.map_cons, List.append_assoc, List.getElem?_append_right (by omega), hl, Nat.sub_self]
  rfl

set_option maxHeartbeats 1000000 in
theorem markIntS_any (p : Option Addr) (cap base : Nat) (xs : List Int) (k0 : Int) (w : World) (ho : Own w base 3 p (xs.map iv)) (hn : xs.length ≤ 1099511627776) (h0 : 0 ≤ k0) (h1 : k0 ≤ 1099511627776) :
    Calls Try.prog 38 #[.slice p xs.length cap, .int .i64 k0] w fun e w' => e = .returned (.int .i64 (k0 + xs.length)) ∧ Own w' base 3 p ((marks k0 xs.length).map iv) ∧ Below base w w' := by
  go_enter Try.func38, Try.ntmps38
  go_wp2
  go_loopw [1, 5] (fun kk i wr => ∃ j : Nat, j ≤ xs.length ∧ i = .int .i64 j ∧ kk = .int .i64 (k0 + j) ∧ Own wr base 3 p ((marks k0 j ++ xs.drop j).map iv) ∧ Below base w wr) (fun _ i _ => xs.length - (intOf i).toNat)
  case atStart => exact ⟨0, Nat.zero_le _, rfl, by simp, by simpa [marks] using ho, Below.refl _ _⟩
  case round =>
    obtain ⟨j, hj, rfl, rfl, hown, hb⟩ := hrel
    have HB := Lib.hid hb
    clear hb ho
    by_cases hlt : j < xs.length
    · rcases hown with ⟨_, hnil⟩ | ⟨g, sp, rfl, hg, hr⟩
      · exfalso
        have := congrArg List.length hnil
        simp [marks_len] at this
        omega
      · have hc := hr.cell (get_marks k0 xs sp j hlt)
        have hf := hr.frozen j
        have HR := Lib.hid hr
        clear hr
        go_wp2
        go_roundw
        case rel =>
          refine ⟨j + 1, by omega, by go_num, by go_num, Or.inr ⟨g, sp, rfl, hg, ?_⟩, HB.out.setCell hg _⟩
          have := HR.out.set j (iv (k0 + (j : Int)))
          rw [set_marks k0 xs sp j hlt] at this
          exact this
        case measure => simp [intOf]; omega
    · have hjn : j = xs.length := by omega
      subst hjn
      have HO := Lib.hid hown
      clear hown
      go_wp2
      go_ret
      refine ⟨rfl, ?_, HB.out⟩
      have := HO.out
      simpa using this

set_option maxHeartbeats 1000000 in
theorem heldIntS_any (p : Option Addr) (cap n : Nat) (k0 : Int) (w : World) (hI : Ints w p (marks k0 n)) (hn : n ≤ 1099511627776) (h0 : 0 ≤ k0) (h1 : k0 ≤ 1099511627776) :
    Calls Try.prog 39 #[.slice p n cap, .int .i64 k0] w fun e w' => e = .returned (.int .i64 (k0 + n)) ∧ w = w' := by
  go_enter Try.func39, Try.ntmps39
  go_wp2
  go_loop [1, 5] (fun kk i => ∃ j : Nat, j ≤ n ∧ i = .int .i64 j ∧ kk = .int .i64 (k0 + j)) (fun _ i => n - (intOf i).toNat)
  case atStart => exact ⟨0, Nat.zero_le _, rfl, by simp⟩
  case round =>
    obtain ⟨j, hj, rfl, rfl⟩ := hrel
    by_cases hlt : j < n
    · obtain ⟨b, off, x, rfl, hx, hc⟩ := hI.at (k := j) (by rw [marks_len]; exact hlt)
      obtain rfl := marks_get hx
      clear hx hI
      go_wp2
      go_round
      case rel => exact ⟨j + 1, by omega, by go_num, by go_num⟩
      case measure => simp [intOf]; omega
    · have hjn : j = n := by omega
      subst hjn
      go_wp2
      go_ret
      exact ⟨rfl, rfl⟩
end Go.Proofs.Ytkafmhgnbfofjaa
