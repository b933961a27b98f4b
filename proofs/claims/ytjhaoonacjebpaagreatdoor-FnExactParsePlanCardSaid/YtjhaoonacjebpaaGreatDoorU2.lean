/- Texts of mine laid together (Name, Str, Row, Has, Net, Net2, Data, Data2, Open, KNet, Mt, Mn): contracts of functions and plain laws. -/
import Derived.Test.YtjhaoonacjebpaaGreatDoorU1
import Derived.PlainAid
import Derived.StillTailTactics
import Derived.ProofKit
import Derived.OpenShut
import Derived.Lib.SmallJoins
import Derived.Deep.Slices
import Derived.ChangeArms
import Derived.Laws.BytesArg
/- Contracts: ranges and names, on both sides. -/
namespace Go.Proofs.YtjhaoonacjebpaaGreatDoor
open Go.RowKit Go.PlainAid

def letB (x : Int) : Bool := inB x 97 122
def digB (x : Int) : Bool := inB x 48 57
/-- A letter, or a digit that does not come first. -/
def okC (s : ByteArray) (k : Nat) : Bool := letB (bt s k) || (digB (bt s k) && !decide (k = 0))
/-- A name. -/
def nameB (s : ByteArray) : Bool := (List.range s.size).all (okC s) && inB s.size 1 8
theorem nameB_bad {s : ByteArray} {k : Nat} (hk : k < s.size) (h : okC s k = false) : nameB s = false := by
  unfold nameB
  have : (List.range s.size).all (okC s) = false := by rw [List.all_eq_false]; exact ⟨k, List.mem_range.2 hk, by simp [h]⟩
  rw [this, Bool.false_and]
theorem nameB_end {s : ByteArray} (h : ∀ k, k < s.size → okC s k = true) : nameB s = inB s.size 1 8 := by
  unfold nameB
  have : (List.range s.size).all (okC s) = true := by rw [List.all_eq_true]; intro k hk; exact h k (List.mem_range.1 hk)
  rw [this, Bool.true_and]
theorem nameB_size {s : ByteArray} (h : inB s.size 1 8 = false) : nameB s = false := by unfold nameB; rw [h, Bool.and_false]
theorem okStepC {f : Nat → Bool} {k : Nat} (h : ∀ j, j < k → f j = true) (hk : f k = true) : ∀ j, j < k + 1 → f j = true := by
  intro j hj
  rcases Nat.lt_or_ge j k with h' | h'
  · exact h j h'
  · have : j = k := by omega
    subst this; exact hk

set_option maxHeartbeats 400000 in
theorem l2Sign_any (x : Int) (w : World) :
    Calls Tryz.prog 120 #[.int .u8 x] w fun e w' => e = .returned (.bool (letB x || digB x)) ∧ w = w' := by
  by_cases h1 : 97 ≤ x
  · by_cases h2 : x ≤ 122
    · have HE : Hid ((letB x || digB x) = true) := by show (letB x || digB x) = true; simp [letB, inB_t h1 h2]
      go_enter Tryz.func120, Tryz.ntmps120
      go_wp2
      go_ret
      exact ⟨ret_bool HE.out.symm, rfl⟩
    · have HE : Hid ((letB x || digB x) = false) := by show (letB x || digB x) = false; rw [show letB x = false from inB_f (by omega), show digB x = false from inB_f (by omega)]; rfl
      have h3 : 48 ≤ x := by omega
      have h4 : ¬ x ≤ 57 := by omega
      go_enter Tryz.func120, Tryz.ntmps120
      go_wp2
      go_ret
      exact ⟨ret_bool HE.out.symm, rfl⟩
  · by_cases h3 : 48 ≤ x
    · by_cases h4 : x ≤ 57
      · have HE : Hid ((letB x || digB x) = true) := by show (letB x || digB x) = true; simp [digB, inB_t h3 h4]
        go_enter Tryz.func120, Tryz.ntmps120
        go_wp2
        go_ret
        exact ⟨ret_bool HE.out.symm, rfl⟩
      · have HE : Hid ((letB x || digB x) = false) := by show (letB x || digB x) = false; rw [show letB x = false from inB_f (by omega), show digB x = false from inB_f (by omega)]; rfl
        go_enter Tryz.func120, Tryz.ntmps120
        go_wp2
        go_ret
        exact ⟨ret_bool HE.out.symm, rfl⟩
    · have HE : Hid ((letB x || digB x) = false) := by show (letB x || digB x) = false; rw [show letB x = false from inB_f (by omega), show digB x = false from inB_f (by omega)]; rfl
      go_enter Tryz.func120, Tryz.ntmps120
      go_wp2
      go_ret
      exact ⟨ret_bool HE.out.symm, rfl⟩

set_option maxHeartbeats 1000000 in
theorem l2Name_any (s : ByteArray) (w : World) (hs : s.size ≤ 9223372036854775807) :
    Calls Tryz.prog 80 #[.string s] w fun e w' => e = .returned (.bool (nameB s)) ∧ w = w' := by
  have kb := get_bt s
  cases h0 : inB s.size 1 8
  · have HN := Lib.hid (nameB_size h0)
    go_enter Tryz.func80, Tryz.ntmps80
    go_wp2_with (go_at_call 79; refine (l1In_any _ _ _ _).mono ?_; rintro e w' ⟨rfl, rfl⟩)
    go_ret
    exact ⟨ret_bool HN.out.symm, rfl⟩
  · obtain ⟨s1, s2⟩ := inB_iff.1 h0
    have hpos : 0 < s.size := by omega
    by_cases h1 : bt s 0 < 97
    · have HN := Lib.hid (nameB_bad (s := s) hpos (by unfold okC; rw [show letB (bt s 0) = false from inB_f (by omega)]; simp))
      go_enter Tryz.func80, Tryz.ntmps80
      go_wp2_with (go_at_call 79; refine (l1In_any _ _ _ _).mono ?_; rintro e w' ⟨rfl, rfl⟩)
      go_ret
      exact ⟨ret_bool HN.out.symm, rfl⟩
    · by_cases h2 : 122 < bt s 0
      · have HN := Lib.hid (nameB_bad (s := s) hpos (by unfold okC; rw [show letB (bt s 0) = false from inB_f (by omega)]; simp))
        go_enter Tryz.func80, Tryz.ntmps80
        go_wp2_with (go_at_call 79; refine (l1In_any _ _ _ _).mono ?_; rintro e w' ⟨rfl, rfl⟩)
        go_ret
        exact ⟨ret_bool HN.out.symm, rfl⟩
      · have H0 : Hid (letB (bt s 0) = true) := inB_t (by omega) (by omega)
        have HI := Lib.hid h0
        have hd1 : decide (bt s 0 < 97) = false := decide_eq_false h1
        have hd2 : decide (122 < bt s 0) = false := decide_eq_false h2
        go_enter Tryz.func80, Tryz.ntmps80
        go_wp2_with (go_at_call 79; refine (l1In_any _ _ _ _).mono ?_; rintro e w' ⟨rfl, rfl⟩)
        go_loop [3] (fun i => ∃ k : Nat, k ≤ s.size ∧ i = .int .i64 k ∧ ∀ j, j < k → okC s j = true) (fun i => s.size - (intOf i).toNat)
        case atStart => exact ⟨0, Nat.zero_le _, rfl, fun j hj => by omega⟩
        case round =>
          obtain ⟨k, hk, rfl, hall⟩ := hrel
          have HA := Lib.hid hall
          clear hall
          by_cases hlt : k < s.size
          · cases hsg : (letB (bt s k) || digB (bt s k))
            · have HN := Lib.hid (nameB_bad (s := s) hlt (by unfold okC; rw [Bool.or_eq_false_iff] at hsg; rw [hsg.1, hsg.2]; rfl))
              go_wp2_with (go_at_call 120; refine (l2Sign_any _ _).mono ?_; rintro e w' ⟨rfl, rfl⟩)
              go_ret
              exact ⟨ret_bool HN.out.symm, rfl⟩
            · have HK : Hid (okC s k = true) := by
                show okC s k = true
                unfold okC
                by_cases hz : k = 0
                · rw [hz, H0.out]; rfl
                · rw [show (!decide (k = 0)) = true by simp [hz], Bool.and_true]; exact hsg
              go_wp2_with (go_at_call 120; refine (l2Sign_any _ _).mono ?_; rintro e w' ⟨rfl, rfl⟩)
              go_round
              case rel => exact ⟨k + 1, by omega, by go_num, okStepC HA.out HK.out⟩
              case measure => simp [intOf]; omega
          · have hkn : k = s.size := by omega
            have HN := Lib.hid (nameB_end (s := s) (by rw [← hkn]; exact HA.out))
            subst hkn
            go_wp2
            go_ret
            exact ⟨ret_bool (by rw [HN.out, HI.out]), rfl⟩
end Go.Proofs.YtjhaoonacjebpaaGreatDoor

/- Contracts: names (the program), finding a string in a list, ranges and order of fibers. -/
namespace Go.Proofs.YtjhaoonacjebpaaGreatDoor
open Go.RowKit Go.PlainAid

theorem rall_bad {f : Nat → Bool} {n k : Nat} (hk : k < n) (h : f k = false) : (List.range n).all f = false := by
  rw [List.all_eq_false]; exact ⟨k, List.mem_range.2 hk, by simp [h]⟩
theorem rall_end {f : Nat → Bool} {n : Nat} (h : ∀ k, k < n → f k = true) : (List.range n).all f = true := by
  rw [List.all_eq_true]; intro k hk; exact h k (List.mem_range.1 hk)
theorem l1In_q (x a b : Int) (w : World) (n : Nat) : Calls Tryz.prog 79 #[.int .i64 x, .int .i64 a, .int .i64 b] (w.drewN n) fun e w' => e = .returned (.bool (inB x a b)) ∧ w' = w.drewN n :=
  (l1In_any x a b _).mono fun _ _ ⟨h1, h2⟩ => ⟨h1, h2.symm⟩
theorem within_q (x a b : Int) (w : World) (n : Nat) : Calls Tryz.prog 96 #[.int .i64 x, .int .i64 a, .int .i64 b] (w.drewN n) fun e w' => e = .returned (.bool (inB x a b)) ∧ w' = w.drewN n :=
  (within_any x a b _).mono fun _ _ ⟨h1, h2⟩ => ⟨h1, h2.symm⟩

set_option maxHeartbeats 2000000 in
theorem isName_any (s : ByteArray) (w : World) (hs : s.size ≤ 9223372036854775807) :
    Calls Tryz.prog 94 #[.string s] w fun e w' => e = .returned (.bool (nameB s)) ∧ Fresh w w' := by
  have kb := get_bt s
  go_enter Tryz.func94, Tryz.ntmps94
  go_wp2
  go_loopw [3, 4, 5, 8] (fun c1 c2 c3 i wr => ∃ k : Nat, k ≤ s.size ∧ i = .int .i64 k ∧ (∀ j, j < k → okC s j = true) ∧ Fresh w wr) (fun _ _ _ i _ => s.size - (intOf i).toNat)
  case atStart => exact ⟨0, Nat.zero_le _, rfl, fun j hj => by omega, frefl _⟩
  case round =>
    obtain ⟨k, hk, rfl, hall, hf⟩ := hrel
    have HA := Lib.hid hall
    have HF := Lib.hid hf
    clear hall hf
    by_cases hlt : k < s.size
    · have hltz : (k : Int) < (s.size : Int) := by omega
      by_cases q1 : 97 ≤ bt s k
      · by_cases q2 : bt s k ≤ 122
        · have hok : okC s k = true := by unfold okC; rw [show letB (bt s k) = true from inB_t (by omega) (by omega), show digB (bt s k) = false from inB_f (by omega)]; rfl
          have hd1 : decide (97 ≤ bt s k) = true := decide_eq_true (by omega)
          have hd2 : decide (bt s k ≤ 122) = true := decide_eq_true (by omega)
          have hd3 : decide (48 ≤ bt s k) = true := decide_eq_true (by omega)
          have hd4 : decide (bt s k ≤ 57) = false := decide_eq_false (by omega)
          have HK := Lib.hid hok
          clear hok
          go_wp2
          go_quiet (fail)
          go_wp2
          go_roundw
          case rel => exact ⟨k + 1, by omega, by go_num, okStepC HA.out HK.out, fdrewN (HF.out) _⟩
          case measure => simp [intOf]; omega
        · have hok : okC s k = false := by unfold okC; rw [show letB (bt s k) = false from inB_f (by omega), show digB (bt s k) = false from inB_f (by omega)]; rfl
          have hd1 : decide (97 ≤ bt s k) = true := decide_eq_true (by omega)
          have hd2 : decide (bt s k ≤ 122) = false := decide_eq_false (by omega)
          have hd3 : decide (48 ≤ bt s k) = true := decide_eq_true (by omega)
          have hd4 : decide (bt s k ≤ 57) = false := decide_eq_false (by omega)
          have HN := Lib.hid (nameB_bad (s := s) hlt hok)
          clear hok
          go_wp2
          go_quiet (fail)
          go_wp2
          go_ret
          exact ⟨ret_bool HN.out.symm, fdrewN (HF.out) _⟩
      · by_cases q3 : 48 ≤ bt s k
        · by_cases q4 : bt s k ≤ 57
          · by_cases hz : k = 0
            · have hok : okC s k = false := by unfold okC; rw [show letB (bt s k) = false from inB_f (by omega), show digB (bt s k) = true from inB_t (by omega) (by omega)]; simp [hz]
              have hd1 : decide (97 ≤ bt s k) = false := decide_eq_false (by omega)
              have hd2 : decide (bt s k ≤ 122) = true := decide_eq_true (by omega)
              have hd3 : decide (48 ≤ bt s k) = true := decide_eq_true (by omega)
              have hd4 : decide (bt s k ≤ 57) = true := decide_eq_true (by omega)
              have hd5 : ((k : Int) == 0) = true := by simp [hz]
              clear hz
              have HN := Lib.hid (nameB_bad (s := s) hlt hok)
              clear hok
              go_wp2
              go_quiet (fail)
              go_wp2
              go_ret
              exact ⟨ret_bool HN.out.symm, fdrewN (HF.out) _⟩
            · have hok : okC s k = true := by unfold okC; rw [show letB (bt s k) = false from inB_f (by omega), show digB (bt s k) = true from inB_t (by omega) (by omega)]; simp [hz]
              have hd1 : decide (97 ≤ bt s k) = false := decide_eq_false (by omega)
              have hd2 : decide (bt s k ≤ 122) = true := decide_eq_true (by omega)
              have hd3 : decide (48 ≤ bt s k) = true := decide_eq_true (by omega)
              have hd4 : decide (bt s k ≤ 57) = true := decide_eq_true (by omega)
              have hd5 : ((k : Int) == 0) = false := by simp; omega
              have HK := Lib.hid hok
              clear hok
              go_wp2
              go_quiet (fail)
              go_wp2
              go_roundw
              case rel => exact ⟨k + 1, by omega, by go_num, okStepC HA.out HK.out, fdrewN (HF.out) _⟩
              case measure => simp [intOf]; omega
          · have hok : okC s k = false := by unfold okC; rw [show letB (bt s k) = false from inB_f (by omega), show digB (bt s k) = false from inB_f (by omega)]; rfl
            have hd1 : decide (97 ≤ bt s k) = false := decide_eq_false (by omega)
            have hd2 : decide (bt s k ≤ 122) = true := decide_eq_true (by omega)
            have hd3 : decide (48 ≤ bt s k) = true := decide_eq_true (by omega)
            have hd4 : decide (bt s k ≤ 57) = false := decide_eq_false (by omega)
            have HN := Lib.hid (nameB_bad (s := s) hlt hok)
            clear hok
            go_wp2
            go_quiet (fail)
            go_wp2
            go_ret
            exact ⟨ret_bool HN.out.symm, fdrewN (HF.out) _⟩
        · have hok : okC s k = false := by unfold okC; rw [show letB (bt s k) = false from inB_f (by omega), show digB (bt s k) = false from inB_f (by omega)]; rfl
          have hd1 : decide (97 ≤ bt s k) = false := decide_eq_false (by omega)
          have hd2 : decide (bt s k ≤ 122) = true := decide_eq_true (by omega)
          have hd3 : decide (48 ≤ bt s k) = false := decide_eq_false (by omega)
          have hd4 : decide (bt s k ≤ 57) = true := decide_eq_true (by omega)
          have HN := Lib.hid (nameB_bad (s := s) hlt hok)
          clear hok
          go_wp2
          go_quiet (fail)
          go_wp2
          go_ret
          exact ⟨ret_bool HN.out.symm, fdrewN (HF.out) _⟩
    · have hkn : k = s.size := by omega
      have HN := Lib.hid (nameB_end (s := s) (by rw [← hkn]; exact HA.out))
      have hltz : ¬ (k : Int) < (s.size : Int) := by omega
      go_wp2_with (go_at_call 96; refine (within_any _ _ _ _).mono ?_; rintro e w' ⟨rfl, rfl⟩)
      go_ret
      exact ⟨ret_bool HN.out.symm, HF.out⟩

/-- Where a value stands in a list: its first place, -1 if nowhere. -/
def idxL {α : Type} [DecidableEq α] (l : List α) (s : α) : Int := match l.findIdx? (fun x => decide (x = s)) with | some k => k | none => -1
theorem idxL_at {α : Type} [DecidableEq α] {l : List α} {s : α} {k : Nat} (h : ∀ j, j < k → l[j]? ≠ some s) (hk : l[k]? = some s) : idxL l s = k := by
  have hlt : k < l.length := by
    rcases Nat.lt_or_ge k l.length with h' | h'
    · exact h'
    · rw [List.getElem?_eq_none h'] at hk; cases hk
  have : l.findIdx? (fun x => decide (x = s)) = some k := by
    rw [List.findIdx?_eq_some_iff_getElem]
    refine ⟨hlt, ?_, ?_⟩
    · rw [List.getElem?_eq_getElem hlt] at hk; simpa using hk
    · intro j hj
      have := h j hj
      rw [List.getElem?_eq_getElem (by omega)] at this
      simpa using this
  unfold idxL; rw [this]
theorem idxL_none {α : Type} [DecidableEq α] {l : List α} {s : α} (h : ∀ j, j < l.length → l[j]? ≠ some s) : idxL l s = -1 := by
  have : l.findIdx? (fun x => decide (x = s)) = none := by
    rw [List.findIdx?_eq_none_iff]
    intro x hx
    obtain ⟨j, hj, rfl⟩ := List.getElem_of_mem hx
    have := h j hj
    rw [List.getElem?_eq_getElem hj] at this
    simpa using this
  unfold idxL; rw [this]
theorem idxL_range {α : Type} [DecidableEq α] (l : List α) (s : α) : -1 ≤ idxL l s ∧ idxL l s ≤ l.length := by
  unfold idxL
  split
  · next k h => rw [List.findIdx?_eq_some_iff_getElem] at h; obtain ⟨h, _⟩ := h; omega
  · omega
theorem idxL_mem {α : Type} [DecidableEq α] (l : List α) (s : α) : 0 ≤ idxL l s ↔ s ∈ l := by
  unfold idxL
  split
  · next k h =>
    rw [List.findIdx?_eq_some_iff_getElem] at h
    obtain ⟨h, h1, _⟩ := h
    simp at h1
    exact ⟨fun _ => h1 ▸ List.getElem_mem h, fun _ => by omega⟩
  · next h =>
    rw [List.findIdx?_eq_none_iff] at h
    exact ⟨fun x => by omega, fun hm => absurd (h s hm) (by simp)⟩
/-- A value at place k stands nowhere before k just if its first place is k. -/
theorem idxL_take {α : Type} [DecidableEq α] {l : List α} {s : α} {k : Nat} (hk : l[k]? = some s) : decide (0 ≤ idxL (l.take k) s) = !decide (idxL l s = k) := by
  by_cases h : s ∈ l.take k
  · have h1 := (idxL_mem _ _).2 h
    have h2 : idxL l s ≠ k := by
      intro he
      obtain ⟨j, hj, hx⟩ := List.getElem_of_mem h
      have hj' : j < k := by simp at hj; omega
      unfold idxL at he
      split at he
      · next q hq =>
        rw [List.findIdx?_eq_some_iff_getElem] at hq
        obtain ⟨hq1, _, hq3⟩ := hq
        have hqk : q = k := by omega
        subst hqk
        have := hq3 j hj'
        simp at hx this
        exact this hx
      · omega
    simp [h1, h2]
  · have h1 : ¬ 0 ≤ idxL (l.take k) s := fun x => h ((idxL_mem _ _).1 x)
    have h2 : idxL l s = k := idxL_at (fun j hj he => h (List.mem_of_getElem? (i := j) (by rw [List.getElem?_take_of_lt hj]; exact he))) hk
    simp [h1, h2]

theorem bytes_eq {x s : ByteArray} (h : x.data.toList = s.data.toList) : x = s := by
  obtain ⟨x⟩ := x; obtain ⟨s⟩ := s
  simp at h; simp [h]
theorem strne {x s : ByteArray} (h : x ≠ s) : (x.toList == s.toList) = false := by
  rw [beq_eq_false_iff_ne]
  intro he
  rw [ByteArray.toList_eq, ByteArray.toList_eq] at he
  exact h (bytes_eq he)
def Strs (w : World) (p : Option Addr) (l : List ByteArray) : Prop := Cells w p (l.map Value.string)
theorem Strs.keep {w w' : World} {p : Option Addr} {l : List ByteArray} (h : Strs w p l) (hb : Fresh w w') : Strs w' p l := Cells.keep h hb
theorem Strs.at {w : World} {p : Option Addr} {l : List ByteArray} (h : Strs w p l) {k : Nat} (hk : k < l.length) :
    ∃ b off s, p = some ⟨b, off, none⟩ ∧ l[k]? = some s ∧ w.cell? ⟨b, off + k, none⟩ = some (.string s) := by
  obtain ⟨b, off, rfl, hc⟩ := Cells.at h (k := k) (by simpa using hk)
  exact ⟨b, off, l[k], rfl, by simp [hk], hc k _ (by simp [hk])⟩
theorem Cells.take {w : World} {p : Option Addr} {cs : List Value} (h : Cells w p cs) (k : Nat) : Cells w p (cs.take k) := by
  rcases h with h | ⟨b, off, hp, hc⟩
  · exact Or.inl (by rw [h]; simp)
  · refine Or.inr ⟨b, off, hp, fun i v hv => hc i v ?_⟩
    rw [List.getElem?_take] at hv
    split at hv
    · exact hv
    · cases hv
theorem Strs.take {w : World} {p : Option Addr} {l : List ByteArray} (h : Strs w p l) (k : Nat) : Strs w p (l.take k) := by
  unfold Strs; rw [List.map_take]; exact Cells.take h k
theorem notyet {α : Type} {l : List α} {s x : α} {k : Nat} (h : ∀ j, j < k → l[j]? ≠ some s) (hx : l[k]? = some x) (hne : x ≠ s) : ∀ j, j < k + 1 → l[j]? ≠ some s := by
  intro j hj
  rcases Nat.lt_or_ge j k with h' | h'
  · exact h j h'
  · have : j = k := by omega
    subst this; rw [hx]; simpa using hne

set_option maxHeartbeats 1000000 in
theorem l2Find_any (p : Option Addr) (cap : Nat) (l : List ByteArray) (s : ByteArray) (w : World) (hI : Strs w p l) (hn : l.length ≤ 9223372036854775806) :
    Calls Tryz.prog 81 #[.slice p l.length cap, .string s] w fun e w' => e = .returned (.int .i64 (idxL l s)) ∧ w = w' := by
  go_enter Tryz.func81, Tryz.ntmps81
  go_wp2
  go_loop [5] (fun i => ∃ k : Nat, k ≤ l.length ∧ i = .int .i64 k ∧ ∀ j, j < k → l[j]? ≠ some s) (fun i => l.length - (intOf i).toNat)
  case atStart => exact ⟨0, Nat.zero_le _, rfl, fun j hj => by omega⟩
  case round =>
    obtain ⟨k, hk, rfl, hall⟩ := hrel
    have HA := Lib.hid hall
    clear hall
    by_cases hlt : k < l.length
    · obtain ⟨b, off, x, rfl, hx, hc⟩ := hI.at hlt
      have hltz : (k : Int) < (l.length : Int) := by omega
      by_cases he : x = s
      · have HE := Lib.hid (idxL_at HA.out (by rw [hx, he]))
        have hd : decide (x = s) = true := decide_eq_true he
        have hd' : (x.toList == s.toList) = true := by rw [he]; simp
        clear hx
        go_wp2
        go_ret
        exact ⟨ret_int HE.out.symm, rfl⟩
      · have HE := Lib.hid (notyet HA.out hx he)
        have hd : decide (x = s) = false := decide_eq_false he
        have hd' : (x.toList == s.toList) = false := strne he
        clear hx
        go_wp2
        go_round
        case rel => exact ⟨k + 1, by omega, by go_num, HE.out⟩
        case measure => simp [intOf]; omega
    · have hkn : k = l.length := by omega
      have HE := Lib.hid (idxL_none (l := l) (s := s) (by rw [← hkn]; exact HA.out))
      have hltz : ¬ (k : Int) < (l.length : Int) := by omega
      go_wp2
      go_ret
      exact ⟨ret_int HE.out.symm, rfl⟩

set_option maxHeartbeats 1000000 in
theorem index_any (p : Option Addr) (cap : Nat) (l : List ByteArray) (s : ByteArray) (w : World) (hI : Strs w p l) (hn : l.length ≤ 9223372036854775806) :
    Calls Tryz.prog 125 #[.slice p l.length cap, .string s] w fun e w' => e = .returned (.int .i64 (idxL l s)) ∧ w = w' := by
  go_enter Tryz.func125, Tryz.ntmps125
  go_wp2
  go_loop [5, 8] (fun _ i => ∃ k : Nat, k ≤ l.length ∧ i = .int .i64 k ∧ ∀ j, j < k → l[j]? ≠ some s) (fun _ i => l.length - (intOf i).toNat)
  case atStart => exact ⟨0, Nat.zero_le _, rfl, fun j hj => by omega⟩
  case round =>
    obtain ⟨k, hk, rfl, hall⟩ := hrel
    have HA := Lib.hid hall
    clear hall
    by_cases hlt : k < l.length
    · obtain ⟨b, off, x, rfl, hx, hc⟩ := hI.at hlt
      have hltz : (k : Int) < (l.length : Int) := by omega
      by_cases he : x = s
      · have HE := Lib.hid (idxL_at HA.out (by rw [hx, he]))
        have hd : decide (s = x) = true := decide_eq_true he.symm
        have hd' : (s.toList == x.toList) = true := by rw [he]; simp
        clear hx
        go_wp2
        go_ret
        exact ⟨ret_int HE.out.symm, rfl⟩
      · have HE := Lib.hid (notyet HA.out hx he)
        have hd : decide (s = x) = false := decide_eq_false (fun h => he h.symm)
        have hd' : (s.toList == x.toList) = false := strne (fun h => he h.symm)
        clear hx
        go_wp2
        go_round
        case rel => exact ⟨k + 1, by omega, by go_num, HE.out⟩
        case measure => simp [intOf]; omega
    · have hkn : k = l.length := by omega
      have HE := Lib.hid (idxL_none (l := l) (s := s) (by rw [← hkn]; exact HA.out))
      have hltz : ¬ (k : Int) < (l.length : Int) := by omega
      go_wp2
      go_ret
      exact ⟨ret_int HE.out.symm, rfl⟩

set_option maxHeartbeats 400000 in
theorem contains_any (p : Option Addr) (cap : Nat) (l : List ByteArray) (s : ByteArray) (w : World) (hI : Strs w p l) (hn : l.length ≤ 9223372036854775806) :
    Calls Tryz.prog 95 #[.slice p l.length cap, .string s] w fun e w' => e = .returned (.bool (decide (0 ≤ idxL l s))) ∧ w = w' := by
  have HI := Lib.hid hI
  go_enter Tryz.func95, Tryz.ntmps95
  go_wp2_with (go_at_call 125; refine (index_any _ _ _ _ _ HI.out hn).mono ?_; rintro e w' ⟨rfl, rfl⟩)
  go_ret
  exact ⟨rfl, rfl⟩

/-- A fiber: two nodes, a length, a risk. -/
structure Fib where
  a : Int
  b : Int
  len : Int
  risk : Int
abbrev fibC (f : Fib) : List Value := [iv f.a, iv f.b, iv f.len, iv f.risk]
abbrev fibV (f : Fib) : Value := .agg #[iv f.a, iv f.b, iv f.len, iv f.risk]
def fibB (n : Int) (f : Fib) : Bool := decide (0 ≤ f.a ∧ f.a < f.b ∧ f.b < n) && inB f.len 1 5000 && inB f.risk 0 9
/-- The second does not come before the first. -/
def fibAfter (f g : Fib) : Bool :=
  decide (g.a < f.a ∨ (f.a = g.a ∧ (g.b < f.b ∨ (f.b = g.b ∧ (g.len < f.len ∨ (f.len = g.len ∧ g.risk < f.risk))))))
def cmpI (x y : Int) : Int := if x < y then -1 else if y < x then 1 else 0
def cmpF (f g : Fib) : Int := if cmpI f.a g.a ≠ 0 then cmpI f.a g.a else if cmpI f.b g.b ≠ 0 then cmpI f.b g.b else if cmpI f.len g.len ≠ 0 then cmpI f.len g.len else cmpI f.risk g.risk
def before (f g : Fib) : Int := if f.a ≠ g.a then f.a - g.a else if f.b ≠ g.b then f.b - g.b else if f.len ≠ g.len then f.len - g.len else f.risk - g.risk
theorem before_pos (f g : Fib) : decide (0 < before f g) = fibAfter f g := by
  unfold before fibAfter
  apply decide_eq_decide.2
  repeat' split
  all_goals omega
theorem cmpF_pos (f g : Fib) : decide (0 < cmpF f g) = fibAfter f g := by
  unfold cmpF cmpI fibAfter
  apply decide_eq_decide.2
  repeat' split
  all_goals omega

set_option maxHeartbeats 400000 in
theorem isNaN_any (x : Int) (w : World) : Calls Tryz.prog 149 #[.int .i64 x] w fun e w' => e = .returned (.bool false) ∧ w = w' := by
  go_enter Tryz.func149, Tryz.ntmps149
  go_wp2
  go_ret
  exact ⟨by simp, rfl⟩

set_option maxHeartbeats 1000000 in
theorem compare_any (x y : Int) (w : World) : Calls Tryz.prog 127 #[.int .i64 x, .int .i64 y] w fun e w' => e = .returned (.int .i64 (cmpI x y)) ∧ w' = w := by
  by_cases h1 : x < y
  · have HE : Hid (cmpI x y = -1) := by show cmpI x y = -1; simp [cmpI, h1]
    go_enter Tryz.func127, Tryz.ntmps127
    go_wp2_with (go_at_call 149; refine (isNaN_any _ _).mono ?_; rintro e w' ⟨rfl, rfl⟩)
    go_ret
    exact ⟨ret_int HE.out.symm, rfl⟩
  · by_cases h2 : y < x
    · have HE : Hid (cmpI x y = 1) := by show cmpI x y = 1; simp [cmpI, h1, h2]
      go_enter Tryz.func127, Tryz.ntmps127
      go_wp2_with (go_at_call 149; refine (isNaN_any _ _).mono ?_; rintro e w' ⟨rfl, rfl⟩)
      go_ret
      exact ⟨ret_int HE.out.symm, rfl⟩
    · have HE : Hid (cmpI x y = 0) := by show cmpI x y = 0; simp [cmpI, h1, h2]
      go_enter Tryz.func127, Tryz.ntmps127
      go_wp2_with (go_at_call 149; refine (isNaN_any _ _).mono ?_; rintro e w' ⟨rfl, rfl⟩)
      go_ret
      exact ⟨ret_int HE.out.symm, rfl⟩

/-- The first that is not nought. -/
def orL (l : List Int) : Int := (l.find? (fun x => !decide (x = 0))).getD 0
set_option maxHeartbeats 1000000 in
theorem or_any (p : Option Addr) (cap : Nat) (l : List Int) (w : World) (hI : Ints w p l) (hn : l.length ≤ 9223372036854775806) :
    Calls Tryz.prog 126 #[.slice p l.length cap] w fun e w' => e = .returned (.int .i64 (orL l)) ∧ w = w' := by
  go_enter Tryz.func126, Tryz.ntmps126
  go_wp2
  go_loop [5, 8] (fun _ i => ∃ k : Nat, k ≤ l.length ∧ i = .int .i64 k ∧ orL l = orL (l.drop k)) (fun _ i => l.length - (intOf i).toNat)
  case atStart => exact ⟨0, Nat.zero_le _, rfl, by simp⟩
  case round =>
    obtain ⟨k, hk, rfl, hall⟩ := hrel
    have HA := Lib.hid hall
    clear hall
    by_cases hlt : k < l.length
    · obtain ⟨b, off, x, rfl, hx, hc⟩ := hI.at hlt
      have hltz : (k : Int) < (l.length : Int) := by omega
      have hdr : l.drop k = x :: l.drop (k + 1) := by
        rw [List.getElem?_eq_getElem hlt] at hx
        simp only [Option.some.injEq] at hx
        rw [← hx, List.drop_eq_getElem_cons hlt]
      by_cases he : x = 0
      · have HE : Hid (orL l = orL (l.drop (k + 1))) := by
          show orL l = orL (l.drop (k + 1))
          rw [HA.out, hdr]; simp [orL, he]
        have hd' : (x == 0) = true := by simp [he]
        clear hx hdr
        subst he
        go_wp2
        go_round
        case rel => exact ⟨k + 1, by omega, by go_num, HE.out⟩
        case measure => simp [intOf]; omega
      · have HE : Hid (orL l = x) := by
          show orL l = x
          rw [HA.out, hdr]; simp [orL, he]
        have hd' : (x == 0) = false := by simp [he]
        clear hx hdr
        go_wp2
        go_ret
        exact ⟨ret_int HE.out.symm, rfl⟩
    · have hkn : k = l.length := by omega
      have HE : Hid (orL l = 0) := by
        show orL l = 0
        rw [HA.out, hkn, List.drop_length]; rfl
      have hltz : ¬ (k : Int) < (l.length : Int) := by omega
      go_wp2
      go_ret
      exact ⟨ret_int HE.out.symm, rfl⟩
theorem orL_four (f g : Fib) : orL [cmpI f.a g.a, cmpI f.b g.b, cmpI f.len g.len, cmpI f.risk g.risk] = cmpF f g := by
  unfold orL cmpF
  by_cases h1 : cmpI f.a g.a = 0
  · by_cases h2 : cmpI f.b g.b = 0
    · by_cases h3 : cmpI f.len g.len = 0
      · by_cases h4 : cmpI f.risk g.risk = 0 <;> simp [h1, h2, h3, h4]
      · simp [h1, h2, h3]
    · simp [h1, h2]
  · simp [h1]

set_option maxHeartbeats 1000000 in
set_option maxRecDepth 100000 in
theorem compareFibers_any (f g : Fib) (w : World) : Calls Tryz.prog 97 #[fibV f, fibV g] w fun e w' => e = .returned (.int .i64 (cmpF f g)) ∧ Fresh w w' := by
  obtain ⟨a, b, c, d⟩ := f
  obtain ⟨a', b', c', d'⟩ := g
  have HO := Lib.hid (orL_four ⟨a, b, c, d⟩ ⟨a', b', c', d'⟩)
  go_enter Tryz.func97, Tryz.ntmps97
  go_wp2
  obtain ⟨w2, hw2⟩ : ∃ w2, w2 = (w.alloc (.cells #[iv a, iv b, iv c, iv d] 96)).alloc (.cells #[iv a', iv b', iv c', iv d'] 96) := ⟨_, rfl⟩
  rw [← hw2]
  have hf : Fresh w w2 := by rw [hw2]; exact fnew (fnew (frefl _) _) _
  have r1 : RowAt w2 w.heap.size 96 [iv a, iv b, iv c, iv d] := by rw [hw2]; exact (RowAt.new w _ [iv a, iv b, iv c, iv d]).alloc _
  have r2 : RowAt w2 (w.heap.size + 1) 96 [iv a', iv b', iv c', iv d'] := by
    rw [hw2]
    have := RowAt.new (w.alloc (.cells #[iv a, iv b, iv c, iv d] 96)) 96 [iv a', iv b', iv c', iv d']
    simpa using this
  have c0 := r1.cell (i := 0) (v := iv a) rfl
  have c1 := r1.cell (i := 1) (v := iv b) rfl
  have c2 := r1.cell (i := 2) (v := iv c) rfl
  have c3 := r1.cell (i := 3) (v := iv d) rfl
  have e0 := r2.cell (i := 0) (v := iv a') rfl
  have e1 := r2.cell (i := 1) (v := iv b') rfl
  have e2 := r2.cell (i := 2) (v := iv c') rfl
  have e3 := r2.cell (i := 3) (v := iv d') rfl
  have HF := Lib.hid hf
  clear r1 r2 hf hw2
  refine wp_region_still_tail 20 (by kernel_rfl) (by kernel_rfl) ?_
  simp only [List.take_succ_cons, List.take_zero, List.drop_succ_cons, List.drop_zero]
  repeat still_step
  still_call (compare_any _ _ _)
  repeat still_step
  still_call (compare_any _ _ _)
  repeat still_step
  still_call (compare_any _ _ _)
  repeat still_step
  still_call (compare_any _ _ _)
  refine wpStill_nil ?_
  change wpList _ _ _ _ _ w2.drew
  have HF2 : Hid (Fresh w w2.drew) := fdrew HF.out
  clear c0 c1 c2 c3 e0 e1 e2 e3
  generalize w2.drew = w3 at HF2
  clear HF
  go_wp2_with (go_at_call 126; refine (or_any _ _ [cmpI a a', cmpI b b', cmpI c c', cmpI d d'] _ (by first | exact (RowAt.new w3 _ [iv (cmpI a a'), iv (cmpI b b'), iv (cmpI c c'), iv (cmpI d d')]).cells | (rw [Nat.sub_self]; exact (RowAt.new w3 _ [iv (cmpI a a'), iv (cmpI b b'), iv (cmpI c c'), iv (cmpI d d')]).cells)) (by simp)).mono ?_; rintro e w' ⟨rfl, rfl⟩)
  go_ret
  exact ⟨ret_int HO.out, fnew HF2.out _⟩

theorem fibB_eq (n : Int) (f : Fib) : fibB n f = (inB f.a 0 (n - 1) && inB f.b (f.a + 1) (n - 1) && inB f.len 1 5000 && inB f.risk 0 9) := by
  unfold fibB
  congr 2
  unfold inB
  rw [← Bool.decide_and]
  apply decide_eq_decide.2
  omega

set_option maxHeartbeats 2000000 in
theorem l2Fiber_any (f : Fib) (n : Int) (w : World) (hn0 : 0 ≤ n) (hn : n ≤ 1048576) : Calls Tryz.prog 82 #[fibV f, .int .i64 n] w fun e w' => e = .returned (.bool (fibB n f)) ∧ Fresh w w' := by
  obtain ⟨a, b, c, d⟩ := f
  cases h1 : inB a 0 (n - 1)
  · have HE : Hid (fibB n ⟨a, b, c, d⟩ = false) := by show fibB n ⟨a, b, c, d⟩ = false; rw [fibB_eq]; simp [*]
    go_enter Tryz.func82, Tryz.ntmps82
    go_wp2_with (go_at_call 79; refine (l1In_any _ _ _ _).mono ?_; rintro e w' ⟨rfl, rfl⟩)
    go_ret
    exact ⟨ret_bool HE.out.symm, fnew (frefl _) _⟩
  · obtain ⟨g1, g2⟩ := inB_iff.1 h1
    cases h2 : inB b (a + 1) (n - 1)
    · have HE : Hid (fibB n ⟨a, b, c, d⟩ = false) := by show fibB n ⟨a, b, c, d⟩ = false; rw [fibB_eq]; simp [*]
      go_enter Tryz.func82, Tryz.ntmps82
      go_wp2_with (go_at_call 79; refine (l1In_any _ _ _ _).mono ?_; rintro e w' ⟨rfl, rfl⟩)
      go_ret
      exact ⟨ret_bool HE.out.symm, fnew (frefl _) _⟩
    · cases h3 : inB c 1 5000
      · have HE : Hid (fibB n ⟨a, b, c, d⟩ = false) := by show fibB n ⟨a, b, c, d⟩ = false; rw [fibB_eq]; simp [*]
        go_enter Tryz.func82, Tryz.ntmps82
        go_wp2_with (go_at_call 79; refine (l1In_any _ _ _ _).mono ?_; rintro e w' ⟨rfl, rfl⟩)
        go_ret
        exact ⟨ret_bool HE.out.symm, fnew (frefl _) _⟩
      · cases h4 : inB d 0 9
        · have HE : Hid (fibB n ⟨a, b, c, d⟩ = false) := by show fibB n ⟨a, b, c, d⟩ = false; rw [fibB_eq]; simp [*]
          go_enter Tryz.func82, Tryz.ntmps82
          go_wp2_with (go_at_call 79; refine (l1In_any _ _ _ _).mono ?_; rintro e w' ⟨rfl, rfl⟩)
          go_ret
          exact ⟨ret_bool HE.out.symm, fnew (frefl _) _⟩
        · have HE : Hid (fibB n ⟨a, b, c, d⟩ = true) := by show fibB n ⟨a, b, c, d⟩ = true; rw [fibB_eq]; simp [*]
          go_enter Tryz.func82, Tryz.ntmps82
          go_wp2_with (go_at_call 79; refine (l1In_any _ _ _ _).mono ?_; rintro e w' ⟨rfl, rfl⟩)
          go_ret
          exact ⟨ret_bool HE.out.symm, fnew (frefl _) _⟩

def Ab (x : Int) : Prop := -2000000 ≤ x ∧ x ≤ 2000000
set_option maxHeartbeats 2000000 in
theorem l2Before_any (f g : Fib) (w : World) (h1 : Ab f.a) (h2 : Ab f.b) (h3 : Ab f.len) (h4 : Ab f.risk) (h1' : Ab g.a) (h2' : Ab g.b) (h3' : Ab g.len) (h4' : Ab g.risk) :
    Calls Tryz.prog 83 #[fibV f, fibV g] w fun e w' => e = .returned (.int .i64 (before f g)) ∧ Fresh w w' := by
  obtain ⟨a, b, c, d⟩ := f
  obtain ⟨a', b', c', d'⟩ := g
  unfold Ab at h1 h2 h3 h4 h1' h2' h3' h4'
  simp only at h1 h2 h3 h4 h1' h2' h3' h4'
  by_cases k1 : a = a'
  · subst k1
    by_cases k2 : b = b'
    · subst k2
      by_cases k3 : c = c'
      · subst k3
        have HE : Hid (before ⟨a, b, c, d⟩ ⟨a, b, c, d'⟩ = d - d') := by show before ⟨a, b, c, d⟩ ⟨a, b, c, d'⟩ = d - d'; simp [before, *]
        go_enter Tryz.func83, Tryz.ntmps83
        go_wp2
        go_ret
        exact ⟨ret_int HE.out.symm, fnew (fnew (frefl _) _) _⟩
      · have kb : (c == c') = false := by simp [k3]
        have HE : Hid (before ⟨a, b, c, d⟩ ⟨a, b, c', d'⟩ = c - c') := by show before ⟨a, b, c, d⟩ ⟨a, b, c', d'⟩ = c - c'; simp [before, *]
        go_enter Tryz.func83, Tryz.ntmps83
        go_wp2
        go_ret
        exact ⟨ret_int HE.out.symm, fnew (fnew (frefl _) _) _⟩
    · have kb : (b == b') = false := by simp [k2]
      have HE : Hid (before ⟨a, b, c, d⟩ ⟨a, b', c', d'⟩ = b - b') := by show before ⟨a, b, c, d⟩ ⟨a, b', c', d'⟩ = b - b'; simp [before, *]
      go_enter Tryz.func83, Tryz.ntmps83
      go_wp2
      go_ret
      exact ⟨ret_int HE.out.symm, fnew (fnew (frefl _) _) _⟩
  · have kb : (a == a') = false := by simp [k1]
    have HE : Hid (before ⟨a, b, c, d⟩ ⟨a', b', c', d'⟩ = a - a') := by show before ⟨a, b, c, d⟩ ⟨a', b', c', d'⟩ = a - a'; simp [before, *]
    go_enter Tryz.func83, Tryz.ntmps83
    go_wp2
    go_ret
    exact ⟨ret_int HE.out.symm, fnew (fnew (frefl _) _) _⟩
end Go.Proofs.YtjhaoonacjebpaaGreatDoor

/- The frame of a law's row: what a call that leaves old memory alone owes of its arguments and its one bool. -/
namespace Go.Proofs.YtjhaoonacjebpaaGreatDoor
open Go.RowKit Go.ChangeShapes Go.WideShapes Go.ChangeAt Go.Joins

theorem own : ownKnob Tryz.prog.godebug = none := by kernel_rfl
theorem laidOut : laidOutB Tryz.prog = true := by kernel_rfl

section
variable {H : Type} {enc : TypeId × Value → H} {P : Program}
theorem trodAll_fresh (hl : laidOutB P = true) {W W' : World} (hb : Fresh W W') : ∀ (ts : List TypeId) (vs : List Value) (ds : List (DataW H)) (ps : List MemPlace),
    (∀ t ∈ ts, P.readableRec t = true ∧ t < P.types.size) → DataW.TrodAll enc P W 0 (fun _ => true) true ts vs ds ps →
    DataW.TrodAll enc P W' 0 (fun b => decide (b < W.heap.size)) true ts vs ds ps := by
  intro ts
  induction ts with
  | nil => intro vs ds ps _ h; obtain ⟨rfl, rfl, rfl⟩ := trodAll_nil h; exact trodAll_mk0
  | cons t ts ih =>
    intro vs ds ps ht h
    have hlt := DataW.TrodAll.lt h
    obtain ⟨v, vs', d, ds', p, q, rfl, rfl, rfl, h0, hr⟩ := trodAll_cons h
    refine trodAll_cons_mk ?_ (ih _ _ _ (fun u hu => ht u (List.mem_cons_of_mem _ hu)) hr)
    exact Below.trod hl (ht t List.mem_cons_self).1 (ht t List.mem_cons_self).2 h0 hb fun x hx => hlt x (List.mem_append_left _ hx)

theorem post_fresh {f : Func} {s : ChangeSpec} {tb : TypeId} {W W' : World} {args : Array Value} {ds gs : List (DataW H)} {before : List MemPlace} (hl : laidOutB P = true)
    (hread : ∀ t ∈ f.params.toList, P.readableRec t = true ∧ t < P.types.size) (hres : f.resultTypes = #[tb]) (hub : P.underlying tb = some .bool) (hv : s.vars = [])
    (hs : s.fn H ds = { results := [.lit (.bool true)], args := ds })
    (hW : DataW.Whole enc P f.params.toList s.vars false W args.toList ds gs before) (hb : Fresh W W') : s.post enc P f false true false false W args (.bool true) W' := by
  have hW' := hW
  obtain ⟨p, q, hA, hV, rfl, hfz, hnd⟩ := hW
  rw [hv] at hV
  obtain ⟨rfl, rfl⟩ := trodVars_none hV
  have e : s.fn H (ds ++ []) = { results := [.lit (.bool true)], args := ds } := by rw [List.append_nil]; exact hs
  have hA' := trodAll_fresh (enc := enc) hl hb _ _ _ _ hread hA
  refine ⟨ds, [], p ++ [], [], p, [], hW', ?_, ?_, ?_, hb.frame _, fun h => by cases h⟩
  · rw [e, hres]; exact trodAll_mk1 (shut_bool hub true)
  · rw [e]; exact hA'
  · rw [e, hv]; exact rfl

/-- A slice that came in, element by element. -/
theorem slice_of_trod {α : Type} [Inhabited α] (f : α → List Value) (good : α → Prop) {t e : TypeId} {n : Nat} (ht : P.underlying t = some (.slice e)) (hc : P.cellsOf e = n) (hn : 0 < n) (hf : ∀ a, (f a).length = n) {W : World}
    (hread : ∀ fuel cs x, DataW.trod enc P W 0 (fun _ => true) true fuel e cs = some x → ∃ a, cs = f a ∧ good a) {r : Reach} {b : Nat} {v : Value} {d : DataW H} {p : List MemPlace}
    (hok : Value.okWide P W r b t v) (h : DataW.Trod enc P W 0 (fun _ => true) true t v d p) :
    ∃ (q : Option Addr) (cap : Nat) (l : List α), v = .slice q l.length cap ∧ Cells W q (l.flatMap f) ∧ l.length ≤ 9223372036854775807 ∧ ∀ a ∈ l, good a := by
  obtain ⟨a0, len, cap, rfl⟩ := okWide_slice ht hok
  obtain ⟨fuel, hfu⟩ := h
  rcases Go.Deep.open_slice ht hfu with ⟨hcs, _⟩ | ⟨a, len', cap', m, nn, D, Pl, hcs, _, hl, hm, hmm, _, hel⟩
  · simp [Value.cells] at hcs
    obtain ⟨rfl, rfl, rfl⟩ := hcs
    exact ⟨none, 0, [], rfl, Or.inl rfl, by simp, by simp⟩
  · simp [Value.cells] at hcs
    obtain ⟨rfl, rfl, rfl⟩ := hcs
    rw [hc] at hel
    have hlm : len ≤ m := by simp at hmm; omega
    have each : ∀ i, i < len → ∃ x : α, good x ∧ ∀ r, r < n → W.cell? ((a.add (i * n)).add r) = (f x)[r]? := by
      intro i hi
      obtain ⟨cs', h1, h2⟩ := hel i (by omega)
      obtain ⟨x, rfl, hg⟩ := hread _ _ _ h2
      exact ⟨x, hg, (World.cells?_some h1).2.2⟩
    obtain ⟨g, hg⟩ := Go.Deep.choose_lt each
    refine ⟨some a, cap, (List.range len).map g, by simp, ?_, by simp; unfold maxLen at hm; omega, ?_⟩
    · by_cases h0 : 0 < len
      · have hc0 := (hg 0 h0).2 0 hn
        have hlen0 := hf (g 0)
        have hsome : ∃ v, (f (g 0))[0]? = some v := ⟨(f (g 0))[0]'(by omega), by rw [List.getElem?_eq_getElem]⟩
        obtain ⟨v0, hv0⟩ := hsome
        rw [hv0] at hc0
        have hspot := World.cell?_spot hc0
        obtain ⟨bb, off, spot⟩ := a
        have hs : spot = none := by simpa [Addr.add] using hspot
        subst hs
        refine Or.inr ⟨bb, off, rfl, fun i v hv => ?_⟩
        have hi : i < len * n := by
          rcases Nat.lt_or_ge i (len * n) with h | h
          · exact h
          · rw [List.getElem?_eq_none (by rw [flat_len f n hf]; simpa using h)] at hv; cases hv
        have hin : i / n < len := (Nat.div_lt_iff_lt_mul hn).2 hi
        have hrn : i % n < n := Nat.mod_lt _ hn
        have hdm : i / n * n + i % n = i := by rw [Nat.mul_comm]; exact Nat.div_add_mod i n
        have hx : ((List.range len).map g)[i / n]? = some (g (i / n)) := by simp [hin]
        rw [← hdm, flat_get f n hf _ _ _ hrn _ hx] at hv
        have := (hg _ hin).2 _ hrn
        rw [add_plain, add_plain, Nat.add_assoc, hdm] at this
        rw [this]; exact hv
      · have : len = 0 := by omega
        subst this
        exact Or.inl (by simp)
    · intro x hx
      rw [List.mem_map] at hx
      obtain ⟨i, hi, rfl⟩ := hx
      exact (hg i (List.mem_range.1 hi)).1

def In64 (x : Int) : Prop := -9223372036854775808 ≤ x ∧ x ≤ 9223372036854775807
theorem ints_of_trod {t e : TypeId} (ht : P.underlying t = some (.slice e)) (he : P.underlying e = some (.int .i64)) (hc : P.cellsOf e = 1) {W : World} {r : Reach} {b : Nat} {v : Value} {d : DataW H} {p : List MemPlace}
    (hok : Value.okWide P W r b t v) (h : DataW.Trod enc P W 0 (fun _ => true) true t v d p) :
    ∃ (q : Option Addr) (cap : Nat) (xs : List Int), v = .slice q xs.length cap ∧ Ints W q xs ∧ xs.length ≤ 9223372036854775807 ∧ ∀ x ∈ xs, In64 x := by
  obtain ⟨q, cap, l, h1, h2, h3, h4⟩ := slice_of_trod (fun x : Int => [iv x]) In64 ht hc (by omega) (fun _ => rfl) (fun fuel cs x hx => by
    obtain ⟨n, rfl, _, hw⟩ := DataW.trod_int he hx
    exact ⟨n, rfl, bounds_i64 hw⟩) hok h
  refine ⟨q, cap, l, h1, ?_, h3, h4⟩
  unfold Ints
  have e : l.map iv = l.flatMap fun x : Int => [iv x] := flat_one _ _
  rw [e]; exact h2
theorem bytes_of_trod {t e : TypeId} (ht : P.underlying t = some (.slice e)) (he : P.underlying e = some (.int .u8)) (hc : P.cellsOf e = 1) {W : World} {r : Reach} {b : Nat} {v : Value} {d : DataW H} {p : List MemPlace}
    (hok : Value.okWide P W r b t v) (h : DataW.Trod enc P W 0 (fun _ => true) true t v d p) :
    ∃ (q : Option Addr) (cap : Nat) (xs : List Int), v = .slice q xs.length cap ∧ Cells W q (xs.map (Value.int .u8)) ∧ xs.length ≤ 9223372036854775807 ∧ ∀ x ∈ xs, 0 ≤ x ∧ x ≤ 255 := by
  obtain ⟨q, cap, l, h1, h2, h3, h4⟩ := slice_of_trod (fun x : Int => [.int .u8 x]) (fun x => 0 ≤ x ∧ x ≤ 255) ht hc (by omega) (fun _ => rfl) (fun fuel cs x hx => by
    obtain ⟨n, rfl, _, hw⟩ := DataW.trod_int he hx
    exact ⟨n, rfl, bounds_u8 hw⟩) hok h
  refine ⟨q, cap, l, h1, ?_, h3, h4⟩
  have e : l.map (Value.int .u8) = l.flatMap fun x : Int => [.int .u8 x] := flat_one _ _
  rw [e]; exact h2
theorem pairs_of_trod {t e ti : TypeId} {f0 f1 : Field} (ht : P.underlying t = some (.slice e)) (he : P.underlying e = some (.struct #[f0, f1])) (hc : P.cellsOf e = 2) (hi : P.underlying ti = some (.int .i64)) (hci : P.cellsOf ti = 1)
    (ho : f0.type = ti ∧ f0.offset = 0 ∧ f1.type = ti ∧ f1.offset = 1) {W : World} {r : Reach} {b : Nat} {v : Value} {d : DataW H} {p : List MemPlace}
    (hok : Value.okWide P W r b t v) (h : DataW.Trod enc P W 0 (fun _ => true) true t v d p) :
    ∃ (q : Option Addr) (cap : Nat) (l : List (Int × Int)), v = .slice q l.length cap ∧ Cells W q (l.flatMap fun b => [iv b.1, iv b.2]) ∧ l.length ≤ 9223372036854775807 ∧ ∀ x ∈ l, True := by
  obtain ⟨o1, o2, o3, o4⟩ := ho
  exact slice_of_trod (fun b : Int × Int => [iv b.1, iv b.2]) (fun _ => True) ht hc (by omega) (fun _ => rfl) (fun fuel cs x hx => by
    obtain ⟨y0, y1, n, _, hlen, h0, h1⟩ := trod_struct2 he hx
    rw [o1, o2, hci] at h0
    rw [o3, o4, hci] at h1
    obtain ⟨a, ha, _, _⟩ := DataW.trod_int hi h0
    obtain ⟨c, hc', _, _⟩ := DataW.trod_int hi h1
    refine ⟨(a, c), ?_, trivial⟩
    rw [hc] at hlen
    match cs, hlen with
    | [u, v], _ =>
      simp at ha hc'
      rw [ha, hc']) hok h
end
end Go.Proofs.YtjhaoonacjebpaaGreatDoor

/- Contracts: finding an int in a list. -/
namespace Go.Proofs.YtjhaoonacjebpaaGreatDoor
open Go.RowKit

set_option maxHeartbeats 1000000 in
theorem l1Has_any (p : Option Addr) (cap : Nat) (l : List Int) (s : Int) (w : World) (hI : Ints w p l) (hn : l.length ≤ 9223372036854775806) :
    Calls Tryz.prog 122 #[.slice p l.length cap, .int .i64 s] w fun e w' => e = .returned (.bool (decide (s ∈ l))) ∧ w = w' := by
  go_enter Tryz.func122, Tryz.ntmps122
  go_wp2
  go_loop [5] (fun i => ∃ k : Nat, k ≤ l.length ∧ i = .int .i64 k ∧ ∀ j, j < k → l[j]? ≠ some s) (fun i => l.length - (intOf i).toNat)
  case atStart => exact ⟨0, Nat.zero_le _, rfl, fun j hj => by omega⟩
  case round =>
    obtain ⟨k, hk, rfl, hall⟩ := hrel
    have HA := Lib.hid hall
    clear hall
    by_cases hlt : k < l.length
    · obtain ⟨b, off, x, rfl, hx, hc⟩ := hI.at hlt
      have hltz : (k : Int) < (l.length : Int) := by omega
      by_cases he : x = s
      · subst he
        have HE := Lib.hid (idxL_at HA.out hx)
        have HM := Lib.hid (List.mem_of_getElem? hx)
        clear hx
        go_wp2
        go_ret
        exact ⟨ret_bool (decide_eq_true HM.out).symm, rfl⟩
      · have HE := Lib.hid (notyet HA.out hx he)
        have hd : (x == s) = false := by simp [he]
        have he' : ¬ s = x := fun h => he h.symm
        clear hx
        go_wp2
        go_round
        case rel => exact ⟨k + 1, by omega, by go_num, HE.out⟩
        case measure => simp [intOf]; omega
    · have hkn : k = l.length := by omega
      have HE := Lib.hid (idxL_none (l := l) (s := s) (by rw [← hkn]; exact HA.out))
      have hltz : ¬ (k : Int) < (l.length : Int) := by omega
      go_wp2
      go_ret
      exact ⟨ret_bool (decide_eq_false (fun hm => by have := (idxL_mem l s).2 hm; rw [HE.out] at this; omega)).symm, rfl⟩

set_option maxHeartbeats 1000000 in
theorem indexI_any (p : Option Addr) (cap : Nat) (l : List Int) (s : Int) (w : World) (hI : Ints w p l) (hn : l.length ≤ 9223372036854775806) :
    Calls Tryz.prog 136 #[.slice p l.length cap, .int .i64 s] w fun e w' => e = .returned (.int .i64 (idxL l s)) ∧ w = w' := by
  go_enter Tryz.func136, Tryz.ntmps136
  go_wp2
  go_loop [5, 8] (fun _ i => ∃ k : Nat, k ≤ l.length ∧ i = .int .i64 k ∧ ∀ j, j < k → l[j]? ≠ some s) (fun _ i => l.length - (intOf i).toNat)
  case atStart => exact ⟨0, Nat.zero_le _, rfl, fun j hj => by omega⟩
  case round =>
    obtain ⟨k, hk, rfl, hall⟩ := hrel
    have HA := Lib.hid hall
    clear hall
    by_cases hlt : k < l.length
    · obtain ⟨b, off, x, rfl, hx, hc⟩ := hI.at hlt
      have hltz : (k : Int) < (l.length : Int) := by omega
      by_cases he : x = s
      · subst he
        have HE := Lib.hid (idxL_at HA.out hx)
        have HM := Lib.hid (List.mem_of_getElem? hx)
        clear hx
        go_wp2
        go_ret
        exact ⟨ret_int HE.out.symm, rfl⟩
      · have HE := Lib.hid (notyet HA.out hx he)
        have hd : (s == x) = false := by simp; exact fun h => he h.symm
        have he' : ¬ s = x := fun h => he h.symm
        clear hx
        go_wp2
        go_round
        case rel => exact ⟨k + 1, by omega, by go_num, HE.out⟩
        case measure => simp [intOf]; omega
    · have hkn : k = l.length := by omega
      have HE := Lib.hid (idxL_none (l := l) (s := s) (by rw [← hkn]; exact HA.out))
      have hltz : ¬ (k : Int) < (l.length : Int) := by omega
      go_wp2
      go_ret
      exact ⟨ret_int HE.out.symm, rfl⟩

set_option maxHeartbeats 400000 in
theorem containsI_any (p : Option Addr) (cap : Nat) (l : List Int) (s : Int) (w : World) (hI : Ints w p l) (hn : l.length ≤ 9223372036854775806) :
    Calls Tryz.prog 107 #[.slice p l.length cap, .int .i64 s] w fun e w' => e = .returned (.bool (decide (s ∈ l))) ∧ w = w' := by
  have HI := Lib.hid hI
  have HE : Hid (decide (0 ≤ idxL l s) = decide (s ∈ l)) := by show decide (0 ≤ idxL l s) = decide (s ∈ l); exact decide_eq_decide.2 (idxL_mem l s)
  go_enter Tryz.func107, Tryz.ntmps107
  go_wp2_with (go_at_call 136; refine (indexI_any _ _ _ _ _ HI.out hn).mono ?_; rintro e w' ⟨rfl, rfl⟩)
  go_ret
  exact ⟨ret_bool HE.out, rfl⟩
end Go.Proofs.YtjhaoonacjebpaaGreatDoor

/- Contracts: valid networks, on both sides. -/
namespace Go.Proofs.YtjhaoonacjebpaaGreatDoor
open Go.RowKit Go.PlainAid

def Fibs (w : World) (p : Option Addr) (l : List Fib) : Prop := Cells w p (l.flatMap fibC)
theorem Fibs.keep {w w' : World} {p : Option Addr} {l : List Fib} (h : Fibs w p l) (hb : Fresh w w') : Fibs w' p l := Cells.keep h hb
theorem fib_get {l : List Fib} {k : Nat} {f : Fib} (hx : l[k]? = some f) (r : Nat) (hr : r < 4) : (l.flatMap fibC)[k * 4 + r]? = (fibC f)[r]? := flat_get fibC 4 (fun _ => rfl) l k r hr f hx
theorem Fibs.at {w : World} {p : Option Addr} {l : List Fib} (h : Fibs w p l) {k : Nat} (hk : k < l.length) :
    ∃ b off x y z u, p = some ⟨b, off, none⟩ ∧ l[k]? = some ⟨x, y, z, u⟩ ∧ w.cell? ⟨b, off + k * 4, none⟩ = some (.int .i64 x) ∧ w.cell? ⟨b, off + k * 4 + 1, none⟩ = some (.int .i64 y) ∧ w.cell? ⟨b, off + k * 4 + 2, none⟩ = some (.int .i64 z) ∧ w.cell? ⟨b, off + k * 4 + 3, none⟩ = some (.int .i64 u) := by
  obtain ⟨b, off, rfl, hc⟩ := Cells.at h (k := k) (by rw [flat_len fibC 4 (fun _ => rfl)]; omega)
  have hx : l[k]? = some l[k] := by simp [hk]
  refine ⟨b, off, _, _, _, _, rfl, hx, hc _ _ ?_, ?_, ?_, ?_⟩
  · have := fib_get hx 0 (by omega); simpa using this
  · have := hc (k * 4 + 1) (iv l[k].b) (by rw [fib_get hx 1 (by omega)]; rfl); rw [← Nat.add_assoc] at this; exact this
  · have := hc (k * 4 + 2) (iv l[k].len) (by rw [fib_get hx 2 (by omega)]; rfl); rw [← Nat.add_assoc] at this; exact this
  · have := hc (k * 4 + 3) (iv l[k].risk) (by rw [fib_get hx 3 (by omega)]; rfl); rw [← Nat.add_assoc] at this; exact this
theorem Fibs.prev {w : World} {b off : Nat} {l : List Fib} (h : Fibs w (some ⟨b, off, none⟩) l) {k : Nat} (hk : k < l.length) (h0 : 0 < k) :
    ∃ x y z u, l[k - 1]? = some ⟨x, y, z, u⟩ ∧ w.cell? ⟨b, off + (k - 1) * 4, none⟩ = some (.int .i64 x) ∧ w.cell? ⟨b, off + (k - 1) * 4 + 1, none⟩ = some (.int .i64 y) ∧ w.cell? ⟨b, off + (k - 1) * 4 + 2, none⟩ = some (.int .i64 z) ∧ w.cell? ⟨b, off + (k - 1) * 4 + 3, none⟩ = some (.int .i64 u) := by
  obtain ⟨b', off', x, y, z, u, he, hx, h1, h2, h3, h4⟩ := h.at (k := k - 1) (by omega)
  simp at he
  obtain ⟨rfl, rfl⟩ := he
  exact ⟨x, y, z, u, hx, h1, h2, h3, h4⟩

structure Net where
  nodes : List ByteArray
  fibers : List Fib
/-- A network that lies in memory. -/
def NetIn (w : World) (v : Value) (n : Net) : Prop := ∃ q c p d, v = .agg #[.slice q n.nodes.length c, .slice p n.fibers.length d] ∧ Strs w q n.nodes ∧ Fibs w p n.fibers ∧ n.nodes.length ≤ 1048576 ∧ n.fibers.length ≤ 1048576 ∧ n.nodes.length ≤ c ∧ c ≤ 9223372036854775807 ∧ ∀ s ∈ n.nodes, s.size ≤ 1048576
theorem NetIn.keep {w w' : World} {v : Value} {n : Net} (h : NetIn w v n) (hb : Fresh w w') : NetIn w' v n := by
  obtain ⟨q, c, p, d, h1, h2, h3, r⟩ := h
  exact ⟨q, c, p, d, h1, h2.keep hb, h3.keep hb, r⟩

def nameAt (l : List ByteArray) (k : Nat) : Bool := match l[k]? with | some s => nameB s && decide (idxL l s = k) | none => true
def fibAt (N : Int) (l : List Fib) (k : Nat) : Bool := match l[k]? with
  | some f => fibB N f && (decide (k = 0) || match l[k - 1]? with | some g => !fibAfter g f | none => true)
  | none => true
def netB (n : Net) : Bool := inB n.nodes.length 2 8 && decide (n.fibers.length ≤ 14) && (List.range n.nodes.length).all (nameAt n.nodes) && (List.range n.fibers.length).all (fibAt n.nodes.length n.fibers)
theorem netB_size {n : Net} (h : inB n.nodes.length 2 8 = false) : netB n = false := by simp [netB, h]
theorem netB_many {n : Net} (h : ¬ n.fibers.length ≤ 14) : netB n = false := by simp [netB, h]
theorem netB_name {n : Net} {k : Nat} (hk : k < n.nodes.length) (h : nameAt n.nodes k = false) : netB n = false := by
  have := rall_bad hk h; unfold netB; rw [this]; simp
theorem netB_fib {n : Net} {k : Nat} (hk : k < n.fibers.length) (h : fibAt n.nodes.length n.fibers k = false) : netB n = false := by
  have := rall_bad hk h; unfold netB; rw [this]; simp
theorem netB_end {n : Net} (h2 : ∀ k, k < n.nodes.length → nameAt n.nodes k = true) (h3 : ∀ k, k < n.fibers.length → fibAt n.nodes.length n.fibers k = true) : netB n = (inB n.nodes.length 2 8 && decide (n.fibers.length ≤ 14)) := by
  unfold netB; rw [rall_end h2, rall_end h3]; simp
theorem nameAt_of {l : List ByteArray} {k : Nat} {s : ByteArray} (hx : l[k]? = some s) : nameAt l k = (nameB s && decide (idxL l s = k)) := by unfold nameAt; rw [hx]
theorem fibAt_first {N : Int} {l : List Fib} {k : Nat} {f : Fib} (hx : l[k]? = some f) (h0 : ¬ 0 < k) : fibAt N l k = fibB N f := by unfold fibAt; rw [hx]; simp; omega
theorem fibAt_next {N : Int} {l : List Fib} {k : Nat} {f g : Fib} (hx : l[k]? = some f) (hp : l[k - 1]? = some g) (h0 : 0 < k) : fibAt N l k = (fibB N f && !fibAfter g f) := by
  unfold fibAt; rw [hx, hp]; simp [show k ≠ 0 by omega]
theorem fibAt_bad {N : Int} {l : List Fib} {k : Nat} {f : Fib} (hx : l[k]? = some f) (h : fibB N f = false) : fibAt N l k = false := by unfold fibAt; rw [hx]; simp [h]
theorem fibAt_good {N : Int} {l : List Fib} {k : Nat} {f : Fib} (hx : l[k]? = some f) (h : fibAt N l k = true) : fibB N f = true := by
  unfold fibAt at h; rw [hx] at h; simp at h; exact h.1
theorem fib_ab {N : Int} {x y z u : Int} (h : fibB N ⟨x, y, z, u⟩ = true) (hN : N ≤ 1048576) : Ab x ∧ Ab y ∧ Ab z ∧ Ab u := by
  unfold fibB at h
  simp only [Bool.and_eq_true, decide_eq_true_eq, inB] at h
  unfold Ab
  omega
theorem l2Name_q (s : ByteArray) (w : World) (n : Nat) (hs : s.size ≤ 9223372036854775807) : Calls Tryz.prog 80 #[.string s] (w.drewN n) fun e w' => e = .returned (.bool (nameB s)) ∧ w' = w.drewN n :=
  (l2Name_any s _ hs).mono fun _ _ ⟨h1, h2⟩ => ⟨h1, h2.symm⟩
theorem l2Find_q (p : Option Addr) (cap : Nat) (l : List ByteArray) (s : ByteArray) (w : World) (n : Nat) (hI : Strs w p l) (hn : l.length ≤ 9223372036854775806) :
    Calls Tryz.prog 81 #[.slice p l.length cap, .string s] (w.drewN n) fun e w' => e = .returned (.int .i64 (idxL l s)) ∧ w' = w.drewN n :=
  (l2Find_any p cap l s _ (hI.keep (fdrewN (frefl _) n)) hn).mono fun _ _ ⟨h1, h2⟩ => ⟨h1, h2.symm⟩

set_option maxHeartbeats 4000000 in
set_option maxRecDepth 100000 in
theorem l2Good_any (v : Value) (n : Net) (w : World) (h : NetIn w v n) : Calls Tryz.prog 41 #[v] w fun e w' => e = .returned (.bool (netB n)) ∧ Fresh w w' := by
  obtain ⟨N, F⟩ := n
  obtain ⟨q, c, p, d, rfl, hN, hF, n1, n2, n3, n4, hsz⟩ := h
  simp only at hN hF n1 n2 n3 hsz ⊢
  have hsz' := Lib.hid hsz
  clear hsz
  cases h1 : inB N.length 2 8
  · have HE := Lib.hid (netB_size (n := ⟨N, F⟩) h1)
    go_enter Tryz.func41, Tryz.ntmps41
    go_wp2_with (go_at_call 79; refine (l1In_any _ _ _ _).mono ?_; rintro e w' ⟨rfl, rfl⟩)
    go_ret
    exact ⟨ret_bool HE.out.symm, fnew (frefl _) _⟩
  · have g1 := (inB_iff.1 h1)
    have HI1 := Lib.hid h1
    by_cases h2 : F.length ≤ 14
    · have hd2 : decide (14 < (F.length : Int)) = false := decide_eq_false (by omega)
      go_enter Tryz.func41, Tryz.ntmps41
      go_wp2_with (go_at_call 79; refine (l1In_any _ _ _ _).mono ?_; rintro e w' ⟨rfl, rfl⟩)
      clear hd2 h1
      go_loopw [3] (fun i wr => ∃ k : Nat, k ≤ N.length ∧ i = .int .i64 k ∧ (∀ j, j < k → nameAt N j = true) ∧ Fresh (w.alloc (.cells #[.slice q N.length c, .slice p F.length d] 34)) wr) (fun i _ => N.length - (intOf i).toNat)
      case atStart => exact ⟨0, Nat.zero_le _, rfl, fun j hj => by omega, frefl _⟩
      case round =>
        obtain ⟨k, hk, rfl, hall, hf⟩ := hrel
        have HA := Lib.hid hall
        clear hall
        have hb0 := box hf 0 (v := .slice q N.length c) rfl
        have hb1 := box hf 1 (v := .slice p F.length d) rfl
        have hW : Fresh w wr := fstep (fnew (frefl _) _) hf
        have HF := Lib.hid hf
        have HW := Lib.hid hW
        clear hf
        by_cases hlt : k < N.length
        · have HS := Lib.hid (hN.keep hW)
          obtain ⟨b, off, s, rfl, hx, hc⟩ := (hN.keep hW).at hlt
          have HI : Hid (Strs wr (some ⟨b, off, none⟩) N) := HS.out
          have hltz : (k : Int) < (N.length : Int) := by omega
          have hs : s.size ≤ 9223372036854775807 := by have := hsz'.out s (List.mem_of_getElem? hx); omega
          clear hW
          cases hnm : nameB s
          · have HE := Lib.hid (netB_name (n := ⟨N, F⟩) hlt (by rw [nameAt_of hx, hnm]; rfl))
            clear hx
            go_wp2
            go_quiet ((first | (go_at_call 80; exact Calls.quiet_of_same (l2Name_q _ _ _ hs)) | (go_at_call 81; exact Calls.quiet_of_same (l2Find_q _ _ _ _ _ _ HI.out (by omega)))))
            go_wp2
            go_ret
            exact ⟨ret_bool HE.out.symm, fdrewN HW.out _⟩
          · by_cases hid : idxL N s = k
            · have HE := Lib.hid (okStepC HA.out (by rw [nameAt_of hx, hnm, hid]; simp))
              have hdq : (idxL N s == (k : Int)) = true := by simp [hid]
              clear hx hid
              go_wp2
              go_quiet ((first | (go_at_call 80; exact Calls.quiet_of_same (l2Name_q _ _ _ hs)) | (go_at_call 81; exact Calls.quiet_of_same (l2Find_q _ _ _ _ _ _ HI.out (by omega)))))
              go_wp2
              go_roundw
              case rel => exact ⟨k + 1, by omega, by go_num, HE.out, fdrewN HF.out _⟩
              case measure => simp [intOf]; omega
            · have HE := Lib.hid (netB_name (n := ⟨N, F⟩) hlt (by rw [nameAt_of hx, hnm]; simp [hid]))
              have hdq : (idxL N s == (k : Int)) = false := by simp [hid]
              clear hx hid
              go_wp2
              go_quiet ((first | (go_at_call 80; exact Calls.quiet_of_same (l2Name_q _ _ _ hs)) | (go_at_call 81; exact Calls.quiet_of_same (l2Find_q _ _ _ _ _ _ HI.out (by omega)))))
              go_wp2
              go_ret
              exact ⟨ret_bool HE.out.symm, fdrewN HW.out _⟩
        · have hkn : k = N.length := by omega
          have hltz : ¬ (k : Int) < (N.length : Int) := by omega
          clear hW
          go_wp2
          go_loopw [4] (fun i wr => ∃ k : Nat, k ≤ F.length ∧ i = .int .i64 k ∧ (∀ j, j < k → fibAt N.length F j = true) ∧ Fresh (w.alloc (.cells #[.slice q N.length c, .slice p F.length d] 34)) wr) (fun i _ => F.length - (intOf i).toNat)
          case atStart => exact ⟨0, Nat.zero_le _, rfl, fun j hj => by omega, HF.out⟩
          case round =>
            clear HF HW hb0 hb1
            obtain ⟨m, hm, rfl, hall, hf⟩ := hrel
            have HA2 := Lib.hid hall
            clear hall
            have hb0 := box hf 0 (v := .slice q N.length c) rfl
            have hb1 := box hf 1 (v := .slice p F.length d) rfl
            have hW : Fresh w wr := fstep (fnew (frefl _) _) hf
            have HF := Lib.hid hf
            have HW := Lib.hid hW
            clear hf
            by_cases hlm : m < F.length
            · have HS := Lib.hid (hF.keep hW)
              obtain ⟨b2, off2, x, y, z, u, rfl, hx, hc0, hc1, hc2, hc3⟩ := (hF.keep hW).at hlm
              have hlmz : (m : Int) < (F.length : Int) := by omega
              clear hW
              have i0 := fun xa : After wr => akeep hb0 xa
              have i1 := fun xa : After wr => akeep hb1 xa
              have j0 := fun xa : After wr => akeep hc0 xa
              have j1 := fun xa : After wr => akeep hc1 xa
              have j2 := fun xa : After wr => akeep hc2 xa
              have j3 := fun xa : After wr => akeep hc3 xa
              cases hfb : fibB N.length ⟨x, y, z, u⟩
              · have HE := Lib.hid (netB_fib (n := ⟨N, F⟩) hlm (fibAt_bad hx hfb))
                clear hx
                go_wp2
                refine wp_region_after (by kernel_rfl) (by kernel_rfl) ?_
                repeat (go_big_quiet_step ((go_at_call 82; exact after_call (l2Fiber_any ⟨x, y, z, u⟩ _ _ (by omega) (by omega)))))
                refine wpQuiet_nil ?_
                rintro _ ⟨xa, rfl⟩
                go_wp2
                go_ret
                exact ⟨ret_bool HE.out.symm, fstep HW.out xa.h⟩
              · by_cases h0 : 0 < m
                · obtain ⟨x', y', z', u', hp, e0, e1, e2, e3⟩ := Fibs.prev HS.out hlm h0
                  have hd0 : decide ((0 : Int) < (m : Int)) = true := decide_eq_true (by omega)
                  have hz1 : (m : Int) - 1 < (F.length : Int) := by omega
                  have hz2 : (m : Int) - 1 ≤ (F.length : Int) := by omega
                  have hz3 : 0 ≤ (m : Int) - 1 := by omega
                  have q1 := fib_ab hfb (by omega)
                  have q2 := fib_ab (fibAt_good hp (HA2.out (m - 1) (by omega))) (by omega)
                  have HBC : Hid (∀ w, Calls Tryz.prog 83 #[fibV ⟨x', y', z', u'⟩, fibV ⟨x, y, z, u⟩] w fun e w' => e = .returned (.int .i64 (before ⟨x', y', z', u'⟩ ⟨x, y, z, u⟩)) ∧ Fresh w w') :=
                    fun w => l2Before_any _ _ w q2.1 q2.2.1 q2.2.2.1 q2.2.2.2 q1.1 q1.2.1 q1.2.2.1 q1.2.2.2
                  clear q1 q2
                  have l0 := fun xa : After wr => akeep e0 xa
                  have l1 := fun xa : After wr => akeep e1 xa
                  have l2 := fun xa : After wr => akeep e2 xa
                  have l3 := fun xa : After wr => akeep e3 xa
                  cases hcm : fibAfter ⟨x', y', z', u'⟩ ⟨x, y, z, u⟩
                  · have hdb : decide (0 < before ⟨x', y', z', u'⟩ ⟨x, y, z, u⟩) = false := by rw [before_pos]; exact hcm
                    have HE := Lib.hid (okStepC HA2.out (by rw [fibAt_next hx hp h0, hfb, hcm]; rfl))
                    clear hx hp hcm
                    go_wp2
                    refine wp_region_after (by kernel_rfl) (by kernel_rfl) ?_
                    repeat (go_big_quiet_step ((first | (go_at_call 82; exact after_call (l2Fiber_any ⟨x, y, z, u⟩ _ _ (by omega) (by omega))) | (go_at_call 83; exact after_call (HBC.out _)))))
                    refine wpQuiet_nil ?_
                    rintro _ ⟨xa, rfl⟩
                    go_wp2
                    go_roundw
                    case rel => exact ⟨m + 1, by omega, by go_num, HE.out, fstep HF.out xa.h⟩
                    case measure => simp [intOf]; omega
                  · have hdb : decide (0 < before ⟨x', y', z', u'⟩ ⟨x, y, z, u⟩) = true := by rw [before_pos]; exact hcm
                    have HE := Lib.hid (netB_fib (n := ⟨N, F⟩) hlm (by show fibAt N.length F m = false; rw [fibAt_next hx hp h0, hfb, hcm]; rfl))
                    clear hx hp hcm
                    go_wp2
                    refine wp_region_after (by kernel_rfl) (by kernel_rfl) ?_
                    repeat (go_big_quiet_step ((first | (go_at_call 82; exact after_call (l2Fiber_any ⟨x, y, z, u⟩ _ _ (by omega) (by omega))) | (go_at_call 83; exact after_call (HBC.out _)))))
                    refine wpQuiet_nil ?_
                    rintro _ ⟨xa, rfl⟩
                    go_wp2
                    go_ret
                    exact ⟨ret_bool HE.out.symm, fstep HW.out xa.h⟩
                · have hd0 : decide ((0 : Int) < (m : Int)) = false := decide_eq_false (by omega)
                  have HE := Lib.hid (okStepC HA2.out (by rw [fibAt_first hx h0, hfb]))
                  clear hx
                  go_wp2
                  refine wp_region_after (by kernel_rfl) (by kernel_rfl) ?_
                  repeat (go_big_quiet_step ((go_at_call 82; exact after_call (l2Fiber_any ⟨x, y, z, u⟩ _ _ (by omega) (by omega)))))
                  refine wpQuiet_nil ?_
                  rintro _ ⟨xa, rfl⟩
                  go_wp2
                  go_roundw
                  case rel => exact ⟨m + 1, by omega, by go_num, HE.out, fstep HF.out xa.h⟩
                  case measure => simp [intOf]; omega
            · have hmn : m = F.length := by omega
              have hlmz : ¬ (m : Int) < (F.length : Int) := by omega
              have HE := Lib.hid (netB_end (n := ⟨N, F⟩) (by rw [← hkn]; exact HA.out) (by rw [← hmn]; exact HA2.out))
              clear hW
              go_wp2
              go_ret
              exact ⟨ret_bool (by rw [HE.out]; show true = (inB N.length 2 8 && decide (F.length ≤ 14)); rw [HI1.out, decide_eq_true h2]; rfl), HW.out⟩
    · have HE := Lib.hid (netB_many (n := ⟨N, F⟩) h2)
      have hd2 : decide (14 < (F.length : Int)) = true := decide_eq_true (by omega)
      go_enter Tryz.func41, Tryz.ntmps41
      go_wp2_with (go_at_call 79; refine (l1In_any _ _ _ _).mono ?_; rintro e w' ⟨rfl, rfl⟩)
      go_ret
      exact ⟨ret_bool HE.out.symm, fnew (frefl _) _⟩
end Go.Proofs.YtjhaoonacjebpaaGreatDoor

/- Contract: the program's IsValidNetwork. -/
namespace Go.Proofs.YtjhaoonacjebpaaGreatDoor
open Go.RowKit Go.PlainAid

theorem contains_take (p : Option Addr) (cap : Nat) (l : List ByteArray) (k : Nat) (s : ByteArray) (w : World) (hI : Strs w p l) (hk : k ≤ l.length) (hn : l.length ≤ 9223372036854775806) :
    Calls Tryz.prog 95 #[.slice p k cap, .string s] w fun e w' => e = .returned (.bool (decide (0 ≤ idxL (l.take k) s))) ∧ w = w' := by
  have := contains_any p cap (l.take k) s w (hI.take k) (by simp; omega)
  rw [List.length_take, Nat.min_eq_left hk] at this
  exact this

set_option maxHeartbeats 4000000 in
set_option maxRecDepth 100000 in
theorem implIsValidNetwork_any (v : Value) (n : Net) (w : World) (h : NetIn w v n) : Calls Tryz.prog 49 #[v] w fun e w' => e = .returned (.bool (netB n)) ∧ Fresh w w' := by
  obtain ⟨N, F⟩ := n
  obtain ⟨q, c, p, d, rfl, hN, hF, n1, n2, n3, n4, hsz⟩ := h
  simp only at hN hF n1 n2 n3 hsz ⊢
  have hsz' := Lib.hid hsz
  clear hsz
  go_enter Tryz.func49, Tryz.ntmps49
  go_wp2
  go_loopw [3, 4, 10] (fun s1 s2 i wr => ∃ k : Nat, k ≤ N.length ∧ i = .int .i64 k ∧ (∀ j, j < k → nameAt N j = true) ∧ Fresh (w.alloc (.cells #[.slice q N.length c, .slice p F.length d] 34)) wr) (fun _ _ i _ => N.length - (intOf i).toNat)
  case atStart => exact ⟨0, Nat.zero_le _, rfl, fun j hj => by omega, frefl _⟩
  case round =>
    obtain ⟨k, hk, rfl, hall, hf⟩ := hrel
    have HA := Lib.hid hall
    clear hall
    have hb0 := box hf 0 (v := .slice q N.length c) rfl
    have hb1 := box hf 1 (v := .slice p F.length d) rfl
    have hW : Fresh w wr := fstep (fnew (frefl _) _) hf
    have HF := Lib.hid hf
    have HW := Lib.hid hW
    clear hf
    by_cases hlt : k < N.length
    · have HS := Lib.hid (hN.keep hW)
      obtain ⟨b, off, s, rfl, hx, hc⟩ := (hN.keep hW).at hlt
      have HI : Hid (Strs wr (some ⟨b, off, none⟩) N) := HS.out
      have hltz : (k : Int) < (N.length : Int) := by omega
      have hkc : (k : Int) ≤ (c : Int) := by omega
      have hs : s.size ≤ 9223372036854775807 := by have := hsz'.out s (List.mem_of_getElem? hx); omega
      clear hW
      cases hnm : nameB s
      · have HE := Lib.hid (netB_name (n := ⟨N, F⟩) hlt (by rw [nameAt_of hx, hnm]; rfl))
        clear hx
        go_wp2_with fail
        refine (isName_any s _ hs).mono ?_
        rintro e w1 ⟨rfl, hb⟩
        have hb0' := fkeep hb hb0
        have hb1' := fkeep hb hb1
        have HI1 := Lib.hid (HI.out.keep hb)
        have HB := Lib.hid hb
        clear hb hb0 hb1 hc HI
        go_wp2
        go_ret
        exact ⟨ret_bool HE.out.symm, fstep HW.out HB.out⟩
      · cases hid : decide (0 ≤ idxL (N.take k) s)
        · have HE := Lib.hid (okStepC HA.out (by rw [idxL_take hx] at hid; rw [nameAt_of hx, hnm]; simpa using hid))
          clear hx
          go_wp2_with fail
          refine (isName_any s _ hs).mono ?_
          rintro e w1 ⟨rfl, hb⟩
          have hb0' := fkeep hb hb0
          have hb1' := fkeep hb hb1
          have HI1 := Lib.hid (HI.out.keep hb)
          have HB := Lib.hid hb
          clear hb hb0 hb1 hc HI
          go_wp2_with fail
          refine (contains_take (some ⟨b, off, none⟩) c N k s _ HI1.out (by omega) (by omega)).mono ?_
          rintro e w2 ⟨rfl, rfl⟩
          go_wp2
          go_roundw
          case rel => exact ⟨k + 1, by omega, by go_num, HE.out, fstep HF.out HB.out⟩
          case measure => simp [intOf]; omega
        · have HE := Lib.hid (netB_name (n := ⟨N, F⟩) hlt (by rw [idxL_take hx] at hid; rw [nameAt_of hx, hnm]; simpa using hid))
          clear hx
          go_wp2_with fail
          refine (isName_any s _ hs).mono ?_
          rintro e w1 ⟨rfl, hb⟩
          have hb0' := fkeep hb hb0
          have hb1' := fkeep hb hb1
          have HI1 := Lib.hid (HI.out.keep hb)
          have HB := Lib.hid hb
          clear hb hb0 hb1 hc HI
          go_wp2_with fail
          refine (contains_take (some ⟨b, off, none⟩) c N k s _ HI1.out (by omega) (by omega)).mono ?_
          rintro e w2 ⟨rfl, rfl⟩
          go_wp2
          go_ret
          exact ⟨ret_bool HE.out.symm, fstep HW.out HB.out⟩
    · have hkn : k = N.length := by omega
      have hltz : ¬ (k : Int) < (N.length : Int) := by omega
      clear hW
      go_wp2
      go_loopw [5, 6, 30] (fun s1 s2 i wr => ∃ k : Nat, k ≤ F.length ∧ i = .int .i64 k ∧ (∀ j, j < k → fibAt N.length F j = true) ∧ Fresh (w.alloc (.cells #[.slice q N.length c, .slice p F.length d] 34)) wr) (fun _ _ i _ => F.length - (intOf i).toNat)
      case atStart => exact ⟨0, Nat.zero_le _, rfl, fun j hj => by omega, HF.out⟩
      case round =>
        clear HF HW hb0 hb1
        obtain ⟨m, hm, rfl, hall, hf⟩ := hrel
        have HA2 := Lib.hid hall
        clear hall
        have hb0 := box hf 0 (v := .slice q N.length c) rfl
        have hb1 := box hf 1 (v := .slice p F.length d) rfl
        have hW : Fresh w wr := fstep (fnew (frefl _) _) hf
        have HF := Lib.hid hf
        have HW := Lib.hid hW
        clear hf
        by_cases hlm : m < F.length
        · have HS := Lib.hid (hF.keep hW)
          obtain ⟨b2, off2, x, y, z, u, rfl, hx, hc0, hc1, hc2, hc3⟩ := (hF.keep hW).at hlm
          have hlmz : (m : Int) < (F.length : Int) := by omega
          clear hW
          obtain ⟨wn, hwn⟩ : ∃ wn, wn = wr.alloc (.cells #[.int .i64 x, .int .i64 y, .int .i64 z, .int .i64 u] 96) := ⟨_, rfl⟩
          have hfn : Fresh wr wn := by rw [hwn]; exact fnew (frefl _) _
          have hr : RowAt wn wr.heap.size 96 [.int .i64 x, .int .i64 y, .int .i64 z, .int .i64 u] := by rw [hwn]; exact RowAt.new wr _ _
          have t0 := fun xa : After wn => akeep (hr.cell (i := 0) (v := .int .i64 x) rfl) xa
          have t1 := fun xa : After wn => akeep (hr.cell (i := 1) (v := .int .i64 y) rfl) xa
          have t2 := fun xa : After wn => akeep (hr.cell (i := 2) (v := .int .i64 z) rfl) xa
          have t3 := fun xa : After wn => akeep (hr.cell (i := 3) (v := .int .i64 u) rfl) xa
          have i0 := fun xa : After wn => akeep (fkeep hfn hb0) xa
          have i1 := fun xa : After wn => akeep (fkeep hfn hb1) xa
          have HFN := Lib.hid hfn
          clear hr hfn
          go_wp2
          rw [← hwn]
          clear hwn hc0 hc1 hc2 hc3 hb0 hb1
          by_cases a1 : x < 0
          · have da1 : decide (x < 0) = true := decide_eq_true a1
            have hfb : fibB N.length ⟨x, y, z, u⟩ = false := by simp only [fibB]; rw [decide_eq_false (by omega)]; rfl
            have HE := Lib.hid (netB_fib (n := ⟨N, F⟩) hlm (fibAt_bad hx hfb))
            clear hx hfb
            refine wp_region_after (by kernel_rfl) (by kernel_rfl) ?_
            repeat (go_big_quiet_step ((go_at_call 96; exact after_same (within_any _ _ _ _))))
            refine wpQuiet_nil ?_
            rintro _ ⟨xa, rfl⟩
            go_wp2
            go_ret
            exact ⟨ret_bool HE.out.symm, fstep (fstep HW.out HFN.out) xa.h⟩
          · have da1 : decide (x < 0) = false := decide_eq_false a1
            by_cases a2 : y ≤ x
            · have da2 : decide (y ≤ x) = true := decide_eq_true a2
              have hfb : fibB N.length ⟨x, y, z, u⟩ = false := by simp only [fibB]; rw [decide_eq_false (by omega)]; rfl
              have HE := Lib.hid (netB_fib (n := ⟨N, F⟩) hlm (fibAt_bad hx hfb))
              clear hx hfb
              refine wp_region_after (by kernel_rfl) (by kernel_rfl) ?_
              repeat (go_big_quiet_step ((go_at_call 96; exact after_same (within_any _ _ _ _))))
              refine wpQuiet_nil ?_
              rintro _ ⟨xa, rfl⟩
              go_wp2
              go_ret
              exact ⟨ret_bool HE.out.symm, fstep (fstep HW.out HFN.out) xa.h⟩
            · have da2 : decide (y ≤ x) = false := decide_eq_false a2
              by_cases a3 : (N.length : Int) ≤ y
              · have da3 : decide ((N.length : Int) ≤ y) = true := decide_eq_true a3
                have hfb : fibB N.length ⟨x, y, z, u⟩ = false := by simp only [fibB]; rw [decide_eq_false (by omega)]; rfl
                have HE := Lib.hid (netB_fib (n := ⟨N, F⟩) hlm (fibAt_bad hx hfb))
                clear hx hfb
                refine wp_region_after (by kernel_rfl) (by kernel_rfl) ?_
                repeat (go_big_quiet_step ((go_at_call 96; exact after_same (within_any _ _ _ _))))
                refine wpQuiet_nil ?_
                rintro _ ⟨xa, rfl⟩
                go_wp2
                go_ret
                exact ⟨ret_bool HE.out.symm, fstep (fstep HW.out HFN.out) xa.h⟩
              · have da3 : decide ((N.length : Int) ≤ y) = false := decide_eq_false a3
                cases a4 : inB z 1 5000
                · have hfb : fibB N.length ⟨x, y, z, u⟩ = false := by simp [fibB, a4]
                  have HE := Lib.hid (netB_fib (n := ⟨N, F⟩) hlm (fibAt_bad hx hfb))
                  clear hx hfb
                  refine wp_region_after (by kernel_rfl) (by kernel_rfl) ?_
                  repeat (go_big_quiet_step ((go_at_call 96; exact after_same (within_any _ _ _ _))))
                  refine wpQuiet_nil ?_
                  rintro _ ⟨xa, rfl⟩
                  go_wp2
                  go_ret
                  exact ⟨ret_bool HE.out.symm, fstep (fstep HW.out HFN.out) xa.h⟩
                · cases a5 : inB u 0 9
                  · have hfb : fibB N.length ⟨x, y, z, u⟩ = false := by simp [fibB, a5]
                    have HE := Lib.hid (netB_fib (n := ⟨N, F⟩) hlm (fibAt_bad hx hfb))
                    clear hx hfb
                    refine wp_region_after (by kernel_rfl) (by kernel_rfl) ?_
                    repeat (go_big_quiet_step ((go_at_call 96; exact after_same (within_any _ _ _ _))))
                    refine wpQuiet_nil ?_
                    rintro _ ⟨xa, rfl⟩
                    go_wp2
                    go_ret
                    exact ⟨ret_bool HE.out.symm, fstep (fstep HW.out HFN.out) xa.h⟩
                  · have hfb : fibB N.length ⟨x, y, z, u⟩ = true := by simp only [fibB]; rw [decide_eq_true (by omega), a4, a5]; rfl
                    clear a1 a2 a3
                    by_cases h0 : 0 < m
                    · obtain ⟨x', y', z', u', hp, e0, e1, e2, e3⟩ := Fibs.prev HS.out hlm h0
                      have hd0 : decide ((0 : Int) < (m : Int)) = true := decide_eq_true (by omega)
                      have hz1 : (m : Int) - 1 < (F.length : Int) := by omega
                      have hz2 : (m : Int) - 1 ≤ (F.length : Int) := by omega
                      have hz3 : 0 ≤ (m : Int) - 1 := by omega
                      have l0 := fun xa : After wn => akeep (fkeep HFN.out e0) xa
                      have l1 := fun xa : After wn => akeep (fkeep HFN.out e1) xa
                      have l2 := fun xa : After wn => akeep (fkeep HFN.out e2) xa
                      have l3 := fun xa : After wn => akeep (fkeep HFN.out e3) xa
                      clear e0 e1 e2 e3
                      have HBC : Hid (∀ w, Calls Tryz.prog 97 #[fibV ⟨x', y', z', u'⟩, fibV ⟨x, y, z, u⟩] w fun e w' => e = .returned (.int .i64 (cmpF ⟨x', y', z', u'⟩ ⟨x, y, z, u⟩)) ∧ Fresh w w') := fun w => compareFibers_any _ _ w
                      cases hcm : fibAfter ⟨x', y', z', u'⟩ ⟨x, y, z, u⟩
                      · have hdb : decide (0 < cmpF ⟨x', y', z', u'⟩ ⟨x, y, z, u⟩) = false := by rw [cmpF_pos]; exact hcm
                        have HE := Lib.hid (okStepC HA2.out (by rw [fibAt_next hx hp h0, hfb, hcm]; rfl))
                        clear hx hp hcm hfb
                        refine wp_region_after (by kernel_rfl) (by kernel_rfl) ?_
                        repeat (go_big_quiet_step ((first | (go_at_call 96; exact after_same (within_any _ _ _ _)) | (go_at_call 97; exact after_call (HBC.out _)))))
                        refine wpQuiet_nil ?_
                        rintro _ ⟨xa, rfl⟩
                        go_wp2
                        go_roundw
                        case rel => exact ⟨m + 1, by omega, by go_num, HE.out, fstep (fstep HF.out HFN.out) xa.h⟩
                        case measure => simp [intOf]; omega
                      · have hdb : decide (0 < cmpF ⟨x', y', z', u'⟩ ⟨x, y, z, u⟩) = true := by rw [cmpF_pos]; exact hcm
                        have HE := Lib.hid (netB_fib (n := ⟨N, F⟩) hlm (by show fibAt N.length F m = false; rw [fibAt_next hx hp h0, hfb, hcm]; rfl))
                        clear hx hp hcm hfb
                        refine wp_region_after (by kernel_rfl) (by kernel_rfl) ?_
                        repeat (go_big_quiet_step ((first | (go_at_call 96; exact after_same (within_any _ _ _ _)) | (go_at_call 97; exact after_call (HBC.out _)))))
                        refine wpQuiet_nil ?_
                        rintro _ ⟨xa, rfl⟩
                        go_wp2
                        go_ret
                        exact ⟨ret_bool HE.out.symm, fstep (fstep HW.out HFN.out) xa.h⟩
                    · have hd0 : decide ((0 : Int) < (m : Int)) = false := decide_eq_false (by omega)
                      have HE := Lib.hid (okStepC HA2.out (by rw [fibAt_first hx h0, hfb]))
                      clear hx hfb
                      refine wp_region_after (by kernel_rfl) (by kernel_rfl) ?_
                      repeat (go_big_quiet_step ((go_at_call 96; exact after_same (within_any _ _ _ _))))
                      refine wpQuiet_nil ?_
                      rintro _ ⟨xa, rfl⟩
                      go_wp2
                      go_roundw
                      case rel => exact ⟨m + 1, by omega, by go_num, HE.out, fstep (fstep HF.out HFN.out) xa.h⟩
                      case measure => simp [intOf]; omega
        · have hmn : m = F.length := by omega
          have hlmz : ¬ (m : Int) < (F.length : Int) := by omega
          have HE := Lib.hid (netB_end (n := ⟨N, F⟩) (by rw [← hkn]; exact HA.out) (by rw [← hmn]; exact HA2.out))
          clear hW
          cases h1 : inB N.length 2 8
          · have HE2 : Hid (netB ⟨N, F⟩ = false) := by show netB ⟨N, F⟩ = false; rw [HE.out]; show (inB N.length 2 8 && decide (F.length ≤ 14)) = false; rw [h1]; rfl
            go_wp2_with (go_at_call 96; refine (within_any _ _ _ _).mono ?_; rintro e w' ⟨rfl, rfl⟩)
            go_ret
            exact ⟨ret_bool HE2.out.symm, HW.out⟩
          · by_cases h2 : F.length ≤ 14
            · have HE2 : Hid (netB ⟨N, F⟩ = true) := by show netB ⟨N, F⟩ = true; rw [HE.out]; show (inB N.length 2 8 && decide (F.length ≤ 14)) = true; rw [h1, decide_eq_true h2]; rfl
              have hd2 : decide ((F.length : Int) ≤ 14) = true := decide_eq_true (by omega)
              go_wp2_with (go_at_call 96; refine (within_any _ _ _ _).mono ?_; rintro e w' ⟨rfl, rfl⟩)
              go_ret
              exact ⟨ret_bool HE2.out.symm, HW.out⟩
            · have HE2 : Hid (netB ⟨N, F⟩ = false) := by show netB ⟨N, F⟩ = false; rw [HE.out]; show (inB N.length 2 8 && decide (F.length ≤ 14)) = false; rw [decide_eq_false h2, Bool.and_false]
              have hd2 : decide ((F.length : Int) ≤ 14) = false := decide_eq_false (by omega)
              go_wp2_with (go_at_call 96; refine (within_any _ _ _ _).mono ?_; rintro e w' ⟨rfl, rfl⟩)
              go_ret
              exact ⟨ret_bool HE2.out.symm, HW.out⟩
end Go.Proofs.YtjhaoonacjebpaaGreatDoor

/- Contracts: strings, lists of four ints, networks: sizes, copies, comparisons. -/
namespace Go.Proofs.YtjhaoonacjebpaaGreatDoor
open Go.RowKit Go.PlainAid

abbrev strC (s : ByteArray) : List Value := [.string s]
theorem strs_flat (l : List ByteArray) : l.map Value.string = l.flatMap strC := flat_one _ _
abbrev zStr : List Value := [.string ByteArray.empty]
abbrev zFib : List Value := [iv 0, iv 0, iv 0, iv 0]
theorem infoStr : (Tryz.prog.info? 9).map (fun i => (i.zero, i.size, i.bytes)) = some (some (.string ByteArray.empty), zStr.length, 16) := by kernel_rfl
theorem infoFib : (Tryz.prog.info? 96).map (fun i => (i.zero, i.size, i.bytes)) = some (some (.agg #[iv 0, iv 0, iv 0, iv 0]), zFib.length, 32) := by kernel_rfl
/-- What is left of the bulk, and what that tells. -/
def SzOut (w : World) (left : Int) (P : Prop) (e : Ending) (w' : World) : Prop := ∃ r, e = .returned (.int .i64 r) ∧ -1 ≤ r ∧ r ≤ left ∧ (0 ≤ r → P) ∧ Fresh w w'

set_option maxHeartbeats 1000000 in
theorem szStringS_any (p : Option Addr) (cap : Nat) (l : List ByteArray) (left : Int) (w : World) (hI : Strs w p l) (hn : l.length ≤ 9223372036854775807) (hs : ∀ s ∈ l, s.size ≤ 9223372036854775807) (h0 : 0 ≤ left) (h1 : left ≤ 1048576) :
    Calls Tryz.prog 38 #[.slice p l.length cap, .int .i64 left] w (SzOut w left (l.length ≤ 1048576 ∧ ∀ s ∈ l, s.size ≤ 1048576)) := by
  have HS := Lib.hid hs
  clear hs
  by_cases hb : left - (l.length : Int) < 0
  · go_enter Tryz.func38, Tryz.ntmps38
    go_wp2
    go_ret
    exact ⟨_, rfl, by omega, by omega, fun h => by omega, frefl _⟩
  · go_enter Tryz.func38, Tryz.ntmps38
    go_wp2
    go_loop [1, 5] (fun v i => ∃ (k : Nat) (r : Int), k ≤ l.length ∧ i = .int .i64 k ∧ v = .int .i64 r ∧ 0 ≤ r ∧ r ≤ left - l.length ∧ ∀ j s, j < k → l[j]? = some s → s.size ≤ 1048576) (fun _ i => l.length - (intOf i).toNat)
    case atStart => exact ⟨0, _, Nat.zero_le _, rfl, rfl, by omega, by omega, fun j s hj => by omega⟩
    case round =>
      obtain ⟨k, r, hk, rfl, rfl, hr0, hr1, hall⟩ := hrel
      have HA := Lib.hid hall
      clear hall
      by_cases hlt : k < l.length
      · obtain ⟨b, off, s, rfl, hx, hc⟩ := hI.at hlt
        have hltz : (k : Int) < (l.length : Int) := by omega
        have hsz := HS.out s (List.mem_of_getElem? hx)
        have HX := Lib.hid hx
        clear hx
        by_cases hneg : r - (s.size : Int) < 0
        · go_wp2
          go_ret
          exact ⟨_, rfl, by omega, by omega, fun h => by omega, frefl _⟩
        · go_wp2
          go_round
          case rel =>
            refine ⟨k + 1, r - s.size, by omega, by go_num, rfl, by omega, by omega, ?_⟩
            intro j t hj ht
            rcases Nat.lt_or_ge j k with h' | h'
            · exact HA.out j t h' ht
            · have : j = k := by omega
              subst this; rw [HX.out] at ht; cases ht; omega
          case measure => simp [intOf]; omega
      · have hltz : ¬ (k : Int) < (l.length : Int) := by omega
        have hkn : k = l.length := by omega
        go_wp2
        go_ret
        refine ⟨_, rfl, by omega, by omega, fun _ => ⟨by omega, fun s hs => ?_⟩, frefl _⟩
        obtain ⟨j, hj, rfl⟩ := List.getElem_of_mem hs
        exact HA.out j _ (by omega) (List.getElem?_eq_getElem hj)

set_option maxHeartbeats 400000 in
theorem szFiberS_any (p : Option Addr) (n cap : Nat) (left : Int) (w : World) (hn : n ≤ 9223372036854775807) (h0 : 0 ≤ left) (h1 : left ≤ 1048576) :
    Calls Tryz.prog 39 #[.slice p n cap, .int .i64 left] w (SzOut w left (n ≤ 1048576)) := by
  by_cases hb : left - (n : Int) < 0
  · go_enter Tryz.func39, Tryz.ntmps39
    go_wp2
    go_ret
    exact ⟨_, rfl, by omega, by omega, fun h => by omega, frefl _⟩
  · go_enter Tryz.func39, Tryz.ntmps39
    go_wp2
    go_ret
    exact ⟨_, rfl, by omega, by omega, fun h => by omega, frefl _⟩

set_option maxHeartbeats 1000000 in
theorem toFiber_any (x y z u : Int) (w : World) :
    Calls Tryz.prog 91 #[.agg #[.int .i64 x, .int .i64 y, .int .i64 z, .int .i64 u]] w fun e w' => e = .returned (.agg #[.int .i64 x, .int .i64 y, .int .i64 z, .int .i64 u]) ∧ Fresh w w' := by
  go_enter Tryz.func91, Tryz.ntmps91
  go_wp2
  refine bodyPost_ret (v := .agg #[.int .i64 x, .int .i64 y, .int .i64 z, .int .i64 u]) (by simp [results, Tryz.results91, go_sem]) rfl ⟨rfl, ?_⟩
  repeat (first | exact frefl _ | apply fnew | (refine fset ?_ (by simp) _))

set_option maxHeartbeats 2000000 in
theorem toFiberS_any (p : Option Addr) (cap : Nat) (l : List Fib) (w : World) (hI : Fibs w p l) (hn : l.length ≤ 1048576) :
    Calls Tryz.prog 47 #[.slice p l.length cap] w fun e w' =>
      e = .returned (.slice (some ⟨w.heap.size, 0, none⟩) l.length l.length) ∧ RowAt w' w.heap.size 96 (l.flatMap fibC) ∧ Fresh w w' := by
  have hmk := mkRow (z := zFib) Tryz.underlying32 infoFib rfl (by decide) l.length (by omega) (by omega)
  go_enter Tryz.func47, Tryz.ntmps47
  go_wp2
  go_loopw [4] (fun i wr => ∃ k : Nat, k ≤ l.length ∧ i = .int .i64 k ∧ RowAt wr w.heap.size 96 (fillR fibC zFib l k) ∧ Fresh w wr)
    (fun i _ => l.length - (intOf i).toNat)
  case atStart => exact ⟨0, Nat.zero_le _, rfl, by rw [fillR_zero]; exact RowAt.new w _ _, fnew (frefl _) _⟩
  case round =>
    obtain ⟨k, hk, rfl, hrow, hf⟩ := hrel
    by_cases hlt : k < l.length
    · obtain ⟨b, off, x, y, z, u, rfl, hx, hc0, hc1, hc2, hc3⟩ := hI.at hlt
      have hltz : (k : Int) < (l.length : Int) := by omega
      have hd0 := fkeep hf hc0
      have hd1 := fkeep hf hc1
      have hd2 := fkeep hf hc2
      have hd3 := fkeep hf hc3
      have HX := Lib.hid hx
      have HR := Lib.hid hrow
      have HF := Lib.hid hf
      clear hx hc0 hc1 hc2 hc3 hI hrow hf
      go_wp2_with fail
      refine (toFiber_any _ _ _ _ _).mono ?_; rintro e w1 ⟨rfl, hb1⟩
      have hr1 := HR.out.keep hb1
      have hcell0 : w1.cell? ⟨w.heap.size, k * 4, none⟩ = some (.int .i64 0) := hr1.cell (fillR_get fibC zFib l k 0 (fun _ => rfl) hlt (by decide))
      have hcell1 : w1.cell? ⟨w.heap.size, k * 4 + 1, none⟩ = some (.int .i64 0) := hr1.cell (fillR_get fibC zFib l k 1 (fun _ => rfl) hlt (by decide))
      have hcell2 : w1.cell? ⟨w.heap.size, k * 4 + 2, none⟩ = some (.int .i64 0) := hr1.cell (fillR_get fibC zFib l k 2 (fun _ => rfl) hlt (by decide))
      have hcell3 : w1.cell? ⟨w.heap.size, k * 4 + 3, none⟩ = some (.int .i64 0) := hr1.cell (fillR_get fibC zFib l k 3 (fun _ => rfl) hlt (by decide))
      have hfr0 := hr1.frozen (k * 4)
      have hfr1 := hr1.frozen (k * 4 + 1)
      have hfr2 := hr1.frozen (k * 4 + 2)
      have hfr3 := hr1.frozen (k * 4 + 3)
      have HR1 := Lib.hid hr1
      clear hr1
      go_wp2
      go_roundw
      case rel =>
        refine ⟨k + 1, by omega, by go_num, ?_, fset (fset (fset (fset (fstep HF.out hb1) (Nat.le_refl _) _) (Nat.le_refl _) _) (Nat.le_refl _) _) (Nat.le_refl _) _⟩
        have := (((HR1.out.set (k * 4) (iv x)).set (k * 4 + 1) (iv y)).set (k * 4 + 2) (iv z)).set (k * 4 + 3) (iv u)
        have e : ((((fillR fibC zFib l k).set (k * 4) (iv x)).set (k * 4 + 1) (iv y)).set (k * 4 + 2) (iv z)).set (k * 4 + 3) (iv u) = fillR fibC zFib l (k + 1) := fillR_set fibC zFib l k ⟨x, y, z, u⟩ (fun _ => rfl) HX.out
        rw [e] at this
        exact this
      case measure => simp [intOf]; omega
    · have hkn : k = l.length := by omega
      have hltz : ¬ (k : Int) < (l.length : Int) := by omega
      have HR := Lib.hid hrow
      have HF := Lib.hid hf
      clear hrow hf
      go_wp2
      go_ret
      refine ⟨rfl, ?_, HF.out⟩
      have := HR.out
      rw [fillR_end _ _ _ _ (by omega)] at this
      exact this

set_option maxHeartbeats 2000000 in
theorem toStringS_any (p : Option Addr) (cap : Nat) (l : List ByteArray) (w : World) (hI : Strs w p l) (hn : l.length ≤ 1048576) :
    Calls Tryz.prog 46 #[.slice p l.length cap] w fun e w' =>
      e = .returned (.slice (some ⟨w.heap.size, 0, none⟩) l.length l.length) ∧ RowAt w' w.heap.size 9 (l.flatMap strC) ∧ Fresh w w' := by
  have hmk := mkRow (z := zStr) Tryz.underlying22 infoStr rfl (by decide) l.length (by omega) (by omega)
  go_enter Tryz.func46, Tryz.ntmps46
  go_wp2
  go_loopw [4] (fun i wr => ∃ k : Nat, k ≤ l.length ∧ i = .int .i64 k ∧ RowAt wr w.heap.size 9 (fillR strC zStr l k) ∧ Fresh w wr)
    (fun i _ => l.length - (intOf i).toNat)
  case atStart => exact ⟨0, Nat.zero_le _, rfl, by rw [fillR_zero]; exact RowAt.new w _ _, fnew (frefl _) _⟩
  case round =>
    obtain ⟨k, hk, rfl, hrow, hf⟩ := hrel
    by_cases hlt : k < l.length
    · obtain ⟨b, off, s, rfl, hx, hc0⟩ := hI.at hlt
      have hltz : (k : Int) < (l.length : Int) := by omega
      have hd0 := fkeep hf hc0
      have hcell0 : wr.cell? ⟨w.heap.size, k, none⟩ = some (.string ByteArray.empty) := by
        have h := fillR_get strC zStr l k 0 (fun _ => rfl) hlt (by decide)
        have e : k * zStr.length + 0 = k := by simp
        rw [e] at h
        exact hrow.cell h
      have hfr0 := hrow.frozen k
      have HX := Lib.hid hx
      have HR := Lib.hid hrow
      have HF := Lib.hid hf
      clear hx hc0 hI hrow hf
      go_wp2
      go_roundw
      case rel =>
        refine ⟨k + 1, by omega, by go_num, ?_, fset HF.out (Nat.le_refl _) _⟩
        have := HR.out.set k (.string s)
        have h := fillR_set strC zStr l k s (fun _ => rfl) HX.out
        have e : k * zStr.length = k := by simp
        rw [e] at h
        have h' : (fillR strC zStr l k).set k (.string s) = fillR strC zStr l (k + 1) := h
        rw [h'] at this
        exact this
      case measure => simp [intOf]; omega
    · have hkn : k = l.length := by omega
      have hltz : ¬ (k : Int) < (l.length : Int) := by omega
      have HR := Lib.hid hrow
      have HF := Lib.hid hf
      clear hrow hf
      go_wp2
      go_ret
      refine ⟨rfl, ?_, HF.out⟩
      have := HR.out
      rw [fillR_end _ _ _ _ (by omega)] at this
      exact this

set_option maxHeartbeats 1000000 in
theorem eqStringS_same (p q : Option Addr) (c d : Nat) (l : List ByteArray) (w : World) (hx : Strs w p l) (hy : Strs w q l) (hn : l.length ≤ 1099511627776) :
    Calls Tryz.prog 57 #[.slice p l.length c, .slice q l.length d] w fun e w' => e = .returned (.bool true) ∧ Fresh w w' := by
  go_enter Tryz.func57, Tryz.ntmps57
  go_wp2
  go_loopw [5] (fun i wr => ∃ k : Nat, k ≤ l.length ∧ i = .int .i64 k ∧ Fresh w wr) (fun i _ => l.length - (intOf i).toNat)
  case atStart => exact ⟨0, Nat.zero_le _, rfl, frefl _⟩
  case round =>
    obtain ⟨k, hk, rfl, hf⟩ := hrel
    by_cases hlt : k < l.length
    · obtain ⟨b, off, s, rfl, hx0, hc0⟩ := hx.at hlt
      obtain ⟨b', off', s', rfl, hy0, hc0'⟩ := hy.at hlt
      rw [hx0] at hy0
      simp only [Option.some.injEq] at hy0
      subst hy0
      have hltz : (k : Int) < (l.length : Int) := by omega
      have hd0 := fkeep hf hc0
      have hd0' := fkeep hf hc0'
      have HF := Lib.hid hf
      clear hx0 hc0 hc0' hx hy hf
      go_wp2
      go_quiet (fail)
      go_wp2
      go_roundw
      case rel => exact ⟨k + 1, by omega, by go_num, fdrewN HF.out _⟩
      case measure => simp [intOf]; omega
    · have hkn : k = l.length := by omega
      have hltz : ¬ (k : Int) < (l.length : Int) := by omega
      have HF := Lib.hid hf
      clear hf
      go_wp2
      go_ret
      exact ⟨rfl, HF.out⟩

set_option maxHeartbeats 1000000 in
theorem eqFiber_same (x y z u : Int) (w : World) :
    Calls Tryz.prog 108 #[.agg #[.int .i64 x, .int .i64 y, .int .i64 z, .int .i64 u], .agg #[.int .i64 x, .int .i64 y, .int .i64 z, .int .i64 u]] w fun e w' => e = .returned (.bool true) ∧ Fresh w w' := by
  go_enter Tryz.func108, Tryz.ntmps108
  go_wp2
  go_ret
  exact ⟨rfl, fnew (fnew (frefl _) _) _⟩

set_option maxHeartbeats 1000000 in
set_option maxRecDepth 100000 in
theorem eqFiberS_same (p q : Option Addr) (c d : Nat) (l : List Fib) (w : World) (hx : Fibs w p l) (hy : Fibs w q l) (hn : l.length ≤ 1099511627776) :
    Calls Tryz.prog 58 #[.slice p l.length c, .slice q l.length d] w fun e w' => e = .returned (.bool true) ∧ Fresh w w' := by
  go_enter Tryz.func58, Tryz.ntmps58
  go_wp2
  go_loopw [5] (fun i wr => ∃ k : Nat, k ≤ l.length ∧ i = .int .i64 k ∧ Fresh w wr) (fun i _ => l.length - (intOf i).toNat)
  case atStart => exact ⟨0, Nat.zero_le _, rfl, frefl _⟩
  case round =>
    obtain ⟨k, hk, rfl, hf⟩ := hrel
    by_cases hlt : k < l.length
    · obtain ⟨b, off, x, y, z, u, rfl, hx0, hc0, hc1, hc2, hc3⟩ := hx.at hlt
      obtain ⟨b', off', x', y', z', u', rfl, hy0, hc0', hc1', hc2', hc3'⟩ := hy.at hlt
      rw [hx0] at hy0
      simp only [Option.some.injEq, Fib.mk.injEq] at hy0
      obtain ⟨rfl, rfl, rfl, rfl⟩ := hy0
      have hltz : (k : Int) < (l.length : Int) := by omega
      have hd0 := fkeep hf hc0
      have hd1 := fkeep hf hc1
      have hd2 := fkeep hf hc2
      have hd3 := fkeep hf hc3
      have hd0' := fkeep hf hc0'
      have hd1' := fkeep hf hc1'
      have hd2' := fkeep hf hc2'
      have hd3' := fkeep hf hc3'
      have HF := Lib.hid hf
      clear hx0 hc0 hc1 hc2 hc3 hc0' hc1' hc2' hc3' hx hy hf
      go_wp2
      go_still_tail 8, (by kernel_rfl)
      change wpList _ _ _ _ _ wr.drew
      have HF2 : Hid (Fresh w wr.drew) := fdrew HF.out
      generalize wr.drew = w2 at HF2
      go_wp2_with (go_at_call 108; refine (eqFiber_same _ _ _ _ _).mono ?_; rintro e w3 ⟨rfl, hb3⟩)
      go_roundw
      case rel => exact ⟨k + 1, by omega, by go_num, fstep HF2.out hb3⟩
      case measure => simp [intOf]; omega
    · have hkn : k = l.length := by omega
      have hltz : ¬ (k : Int) < (l.length : Int) := by omega
      have HF := Lib.hid hf
      clear hf
      go_wp2
      go_ret
      exact ⟨rfl, HF.out⟩

end Go.Proofs.YtjhaoonacjebpaaGreatDoor

/- Contracts: networks: sizes, copies, comparisons. -/
namespace Go.Proofs.YtjhaoonacjebpaaGreatDoor
open Go.RowKit Go.PlainAid

/-- A network that came in, of any bulk. -/
def NetRaw (w : World) (v : Value) (n : Net) : Prop := ∃ q c p d, v = .agg #[.slice q n.nodes.length c, .slice p n.fibers.length d] ∧ Strs w q n.nodes ∧ Fibs w p n.fibers ∧ n.nodes.length ≤ 9223372036854775807 ∧ n.fibers.length ≤ 9223372036854775807 ∧ n.nodes.length ≤ c ∧ c ≤ 9223372036854775807 ∧ ∀ s ∈ n.nodes, s.size ≤ 9223372036854775807
def NetSmall (n : Net) : Prop := (n.nodes.length ≤ 1048576 ∧ ∀ s ∈ n.nodes, s.size ≤ 1048576) ∧ n.fibers.length ≤ 1048576
theorem NetRaw.small {w : World} {v : Value} {n : Net} (h : NetRaw w v n) (hs : NetSmall n) : NetIn w v n := by
  obtain ⟨q, c, p, d, h1, h2, h3, h4, h5, h6, h7, h8⟩ := h
  exact ⟨q, c, p, d, h1, h2, h3, hs.1.1, hs.2, h6, h7, hs.1.2⟩
theorem NetRaw.keep {w w' : World} {v : Value} {n : Net} (h : NetRaw w v n) (hb : Fresh w w') : NetRaw w' v n := by
  obtain ⟨q, c, p, d, h1, h2, h3, r⟩ := h
  exact ⟨q, c, p, d, h1, h2.keep hb, h3.keep hb, r⟩
/-- A network of the call's own. -/
def NetOwn (w : World) (base : Nat) (v : Value) (n : Net) : Prop := ∃ g1 g2, v = .agg #[.slice (some ⟨g1, 0, none⟩) n.nodes.length n.nodes.length, .slice (some ⟨g2, 0, none⟩) n.fibers.length n.fibers.length] ∧
  base ≤ g1 ∧ g1 < g2 ∧ RowAt w g1 9 (n.nodes.flatMap strC) ∧ RowAt w g2 96 (n.fibers.flatMap fibC)
theorem NetOwn.keep {w w' : World} {base : Nat} {v : Value} {n : Net} (h : NetOwn w base v n) (hb : Fresh w w') : NetOwn w' base v n := by
  obtain ⟨g1, g2, h1, h2, h3, h4, h5⟩ := h
  exact ⟨g1, g2, h1, h2, h3, h4.keep hb, h5.keep hb⟩
theorem NetOwn.net {w : World} {base : Nat} {v : Value} {n : Net} (h : NetOwn w base v n) (hs : NetSmall n) : NetIn w v n := by
  obtain ⟨g1, g2, h1, h2, h3, h4, h5⟩ := h
  refine ⟨_, _, _, _, h1, ?_, h5.cells, hs.1.1, hs.2, Nat.le_refl _, by have := hs.1.1; omega, hs.1.2⟩
  have := h4.cells
  unfold Strs; rw [strs_flat]; exact this
def OutNet (w : World) (n : Net) (e : Ending) (w' : World) : Prop := ∃ v, e = .returned v ∧ NetOwn w' w.heap.size v n ∧ Fresh w w'

set_option maxHeartbeats 1000000 in
theorem szNetwork_any (v : Value) (n : Net) (left : Int) (w : World) (h : NetRaw w v n) (h0 : 0 ≤ left) (h1 : left ≤ 1048576) : Calls Tryz.prog 14 #[v, .int .i64 left] w (SzOut w left (NetSmall n)) := by
  obtain ⟨N, F⟩ := n
  obtain ⟨q, c, p, d, rfl, hN, hF, n1, n2, n3, n4, hsz⟩ := h
  simp only at hN hF n1 n2 n3 hsz ⊢
  have HSZ := Lib.hid hsz
  clear hsz
  go_enter Tryz.func14, Tryz.ntmps14
  go_wp2_with fail
  refine (szStringS_any q c N left _ (hN.keep (fnew (frefl _) _)) n1 HSZ.out h0 h1).mono ?_
  rintro e w1 ⟨r, rfl, r0, r1, hr, hf⟩
  have hb1 := box hf 1 (v := .slice p F.length d) rfl
  have HW := Lib.hid (fstep (fnew (frefl _) _) hf)
  have HR := Lib.hid hr
  clear hf hr
  by_cases hneg : r < 0
  · go_wp2
    go_ret
    exact ⟨_, rfl, by omega, by omega, fun h => by omega, HW.out⟩
  · go_wp2_with fail
    refine (szFiberS_any p F.length d r _ n2 (by omega) (by omega)).mono ?_
    rintro e w2 ⟨r2, rfl, r20, r21, hr2, hf2⟩
    have HW2 := Lib.hid (fstep HW.out hf2)
    have HR2 := Lib.hid hr2
    clear hf2 hr2
    by_cases hneg2 : r2 < 0
    · go_wp2
      go_ret
      exact ⟨_, rfl, by omega, by omega, fun h => by omega, HW2.out⟩
    · go_wp2
      go_ret
      exact ⟨_, rfl, by omega, by omega, fun h => ⟨HR.out (by omega), HR2.out h⟩, HW2.out⟩

set_option maxHeartbeats 1000000 in
theorem eqNetwork_same (v v' : Value) (n : Net) (w : World) (h : NetIn w v n) (h' : NetIn w v' n) : Calls Tryz.prog 25 #[v, v'] w fun e w' => e = .returned (.bool true) ∧ Fresh w w' := by
  obtain ⟨N, F⟩ := n
  obtain ⟨q, c, p, d, rfl, hN, hF, n1, n2, n3, n4, hsz⟩ := h
  obtain ⟨q', c', p', d', rfl, hN', hF', n1', n2', n3', n4', hsz'⟩ := h'
  simp only at hN hF hN' hF' n1 n2 n3 n1' n2' n3' ⊢
  clear hsz hsz'
  go_enter Tryz.func25, Tryz.ntmps25
  go_wp2_with fail
  refine (eqStringS_same q q' c c' N _ (hN.keep (fnew (fnew (frefl _) _) _)) (hN'.keep (fnew (fnew (frefl _) _) _)) (by omega)).mono ?_
  rintro e w1 ⟨rfl, hf⟩
  have hA : w1.cell? ⟨w.heap.size, 1, none⟩ = some (.slice p F.length d) := ((RowAt.new w _ [.slice q N.length c, .slice p F.length d]).alloc _ |>.keep hf).cell rfl
  have hB : w1.cell? ⟨w.heap.size + 1, 1, none⟩ = some (.slice p' F.length d') := by
    have hr := RowAt.new (w.alloc (.cells #[.slice q N.length c, .slice p F.length d] 34)) 34 [.slice q' N.length c', .slice p' F.length d']
    have hr' := RowAt.keep hr hf
    have := hr'.cell (i := 1) (v := .slice p' F.length d') rfl
    simpa using this
  have HW := Lib.hid (fstep (fnew (fnew (frefl _) _) _) hf)
  clear hf
  go_wp2_with fail
  refine (eqFiberS_same p p' d d' F _ (hF.keep HW.out) (hF'.keep HW.out) (by omega)).mono ?_
  rintro e w2 ⟨rfl, hf2⟩
  have HW2 := Lib.hid (fstep HW.out hf2)
  clear hf2
  go_wp2
  go_ret
  exact ⟨rfl, HW2.out⟩

set_option maxHeartbeats 2000000 in
theorem toNetwork_any (v : Value) (n : Net) (w : World) (h : NetIn w v n) : Calls Tryz.prog 18 #[v] w (OutNet w n) := by
  obtain ⟨N, F⟩ := n
  obtain ⟨q, c, p, d, rfl, hN, hF, n1, n2, n3, n4, hsz⟩ := h
  simp only at hN hF n1 n2 n3 hsz ⊢
  clear hsz
  go_enter Tryz.func18, Tryz.ntmps18
  go_wp2_with fail
  obtain ⟨W3, hW3⟩ : ∃ W3, W3 = ((w.alloc (.cells #[.slice q N.length c, .slice p F.length d] 25)).alloc (.cells #[.slice none 0 0, .slice none 0 0] 34)).alloc (.cells #[.slice none 0 0, .slice none 0 0] 34) := ⟨_, rfl⟩
  rw [← hW3]
  have hsz3 : W3.heap.size = w.heap.size + 1 + 1 + 1 := by rw [hW3]; simp
  have hf3 : Fresh w W3 := by rw [hW3]; exact fnew (fnew (fnew (frefl _) _) _) _
  have r1 : RowAt W3 w.heap.size 25 [.slice q N.length c, .slice p F.length d] := by rw [hW3]; exact ((RowAt.new w _ [.slice q N.length c, .slice p F.length d]).alloc _).alloc _
  have r2 : RowAt W3 (w.heap.size + 1) 34 [.slice none 0 0, .slice none 0 0] := by
    rw [hW3]
    have := (RowAt.new (w.alloc (.cells #[.slice q N.length c, .slice p F.length d] 25)) 34 [.slice none 0 0, .slice none 0 0]).alloc (.cells #[.slice none 0 0, .slice none 0 0] 34)
    simpa using this
  have r3 : RowAt W3 (w.heap.size + 1 + 1) 34 [.slice none 0 0, .slice none 0 0] := by
    rw [hW3]
    have := RowAt.new ((w.alloc (.cells #[.slice q N.length c, .slice p F.length d] 25)).alloc (.cells #[.slice none 0 0, .slice none 0 0] 34)) 34 [.slice none 0 0, .slice none 0 0]
    simpa using this
  clear hW3
  have HF0 := Lib.hid hF
  refine (toStringS_any q c N _ (hN.keep hf3) n1).mono ?_
  rintro e w1 ⟨rfl, hrs, hf⟩
  have s1 := r1.keep hf
  have s2 := r2.keep hf
  have s3 := r3.keep hf
  have hF1 := (hF.keep hf3).keep hf
  have hsz1 := hf.size
  have k10 := s1.cell (i := 0) rfl
  have k11 := s1.cell (i := 1) rfl
  have k30 := s3.cell (i := 0) rfl
  have z30 := s3.frozen 0
  have HS := Lib.hid (And.intro s2 (And.intro s3 (And.intro hrs (And.intro hF1 (And.intro hf hf3)))))
  clear s1 s2 s3 r1 r2 r3 hrs hF1 hf hf3 hN hF
  go_wp2_with fail
  obtain ⟨s2, s3, hrs, hF1, hf, hf3⟩ := HS.out
  rw [hsz3] at hrs
  obtain ⟨w2, hw2⟩ : ∃ w2, w2 = w1.setCell ⟨w.heap.size + 1 + 1, 0, none⟩ (.slice (some ⟨w.heap.size + 1 + 1 + 1, 0, none⟩) N.length N.length) := ⟨_, rfl⟩
  rw [← hw2]
  have hset : Fresh w w2 := by rw [hw2]; exact fset (fstep hf3 hf) (by omega) _
  have t2 : RowAt w2 (w.heap.size + 1) 34 [.slice none 0 0, .slice none 0 0] := by rw [hw2]; exact s2.setOther (by omega) _
  have t3 : RowAt w2 (w.heap.size + 1 + 1) 34 [.slice (some ⟨w.heap.size + 1 + 1 + 1, 0, none⟩) N.length N.length, .slice none 0 0] := by rw [hw2]; exact s3.set 0 _
  have trs : RowAt w2 (w.heap.size + 1 + 1 + 1) 9 (N.flatMap strC) := by rw [hw2]; exact hrs.setOther (by omega) _
  have hlt2 := trs.lt
  clear s2 s3 hrs hF1 hf hf3 HS k10 k11 k30 z30 hw2 hsz1
  refine (toFiberS_any p d F _ (HF0.out.keep hset) n2).mono ?_
  rintro e w3 ⟨rfl, hrf, hf2⟩
  have u2 := t2.keep hf2
  have u3 := t3.keep hf2
  have urs := trs.keep hf2
  have k20 := u2.cell (i := 0) rfl
  have k21 := u2.cell (i := 1) rfl
  have z20 := u2.frozen 0
  have z21 := u2.frozen 1
  have k30 := u3.cell (i := 0) rfl
  have k31 := u3.cell (i := 1) rfl
  have z31 := u3.frozen 1
  have HS := Lib.hid (And.intro urs (And.intro hrf (And.intro hset hf2)))
  have HL := Lib.hid hlt2
  clear u2 u3 urs t2 t3 trs hrf hset hf2 hlt2 hsz3
  go_wp2
  obtain ⟨urs, hrf, hset, hf2⟩ := HS.out
  have hlt2 := HL.out
  refine bodyPost_ret (v := .agg #[.slice (some ⟨w.heap.size + 1 + 1 + 1, 0, none⟩) N.length N.length, .slice (some ⟨w2.heap.size, 0, none⟩) F.length F.length]) (by simp [results, Tryz.results18, go_sem, k20, k21]) rfl ?_
  refine ⟨_, rfl, ⟨_, _, rfl, by omega, hlt2, ?_, ?_⟩, ?_⟩
  · repeat (refine RowAt.setOther ?_ (by omega) _)
    exact urs
  · repeat (refine RowAt.setOther ?_ (by omega) _)
    exact hrf
  · repeat (refine fset ?_ (by omega) _)
    exact fstep hset hf2
end Go.Proofs.YtjhaoonacjebpaaGreatDoor

/- What came in, opened cell by cell: slices of any element, lists of four ints, lists of strings, networks. -/
namespace Go.Proofs.YtjhaoonacjebpaaGreatDoor
open Go.RowKit Go.ChangeShapes Go.WideShapes Go.ChangeAt Go.Joins

section
variable {H : Type} {enc : TypeId × Value → H} {P : Program}
set_option maxRecDepth 100000 in
/-- A slice, out of the cells in which it lies. -/
theorem slice_of_cells {α : Type} [Inhabited α] (f : α → List Value) (good : α → Prop) {t e : TypeId} {n : Nat} (ht : P.underlying t = some (.slice e)) (hc : P.cellsOf e = n) (hn : 0 < n) (hf : ∀ a, (f a).length = n) {W : World}
    (hread : ∀ fuel cs x, DataW.trod enc P W 0 (fun _ => true) true fuel e cs = some x → ∃ a, cs = f a ∧ good a) {fuel : Nat} {cs : List Value} {x : DataW H × List MemPlace}
    (hfu : DataW.trod enc P W 0 (fun _ => true) true fuel t cs = some x) :
    ∃ (q : Option Addr) (cap : Nat) (l : List α), cs = [.slice q l.length cap] ∧ Cells W q (l.flatMap f) ∧ l.length ≤ cap ∧ cap ≤ 9223372036854775807 ∧ ∀ a ∈ l, good a := by
  rcases Go.Deep.open_slice ht hfu with ⟨rfl, _⟩ | ⟨a, len, cap, m, nn, D, Pl, rfl, _, hl, hm, hmm, _, hel⟩
  · exact ⟨none, 0, [], rfl, Or.inl rfl, by simp, by simp, by simp⟩
  · rw [hc] at hel
    have hlm : len ≤ m := by simp at hmm; omega
    have each : ∀ i, i < len → ∃ x : α, good x ∧ ∀ r, r < n → W.cell? ((a.add (i * n)).add r) = (f x)[r]? := by
      intro i hi
      obtain ⟨cs', h1, h2⟩ := hel i (by omega)
      obtain ⟨x, rfl, hg⟩ := hread _ _ _ h2
      exact ⟨x, hg, (World.cells?_some h1).2.2⟩
    obtain ⟨g, hg⟩ := Go.Deep.choose_lt each
    refine ⟨some a, cap, (List.range len).map g, by simp, ?_, by simpa using hl, by unfold maxLen at hm; omega, ?_⟩
    · by_cases h0 : 0 < len
      · have hc0 := (hg 0 h0).2 0 hn
        have hlen0 := hf (g 0)
        have hsome : ∃ v, (f (g 0))[0]? = some v := ⟨(f (g 0))[0]'(by omega), by rw [List.getElem?_eq_getElem]⟩
        obtain ⟨v0, hv0⟩ := hsome
        rw [hv0] at hc0
        have hspot := World.cell?_spot hc0
        obtain ⟨bb, off, spot⟩ := a
        have hs : spot = none := by simpa [Addr.add] using hspot
        subst hs
        refine Or.inr ⟨bb, off, rfl, fun i v hv => ?_⟩
        have hi : i < len * n := by
          rcases Nat.lt_or_ge i (len * n) with h | h
          · exact h
          · rw [List.getElem?_eq_none (by rw [flat_len f n hf]; simpa using h)] at hv; cases hv
        have hin : i / n < len := (Nat.div_lt_iff_lt_mul hn).2 hi
        have hrn : i % n < n := Nat.mod_lt _ hn
        have hdm : i / n * n + i % n = i := by rw [Nat.mul_comm]; exact Nat.div_add_mod i n
        have hx : ((List.range len).map g)[i / n]? = some (g (i / n)) := by simp [hin]
        rw [← hdm, flat_get f n hf _ _ _ hrn _ hx] at hv
        have := (hg _ hin).2 _ hrn
        rw [add_plain, add_plain, Nat.add_assoc, hdm] at this
        rw [this]; exact hv
      · have : len = 0 := by omega
        subst this
        exact Or.inl (by simp)
    · intro x hx
      rw [List.mem_map] at hx
      obtain ⟨i, hi, rfl⟩ := hx
      exact (hg i (List.mem_range.1 hi)).1

instance : Inhabited Fib := ⟨⟨0, 0, 0, 0⟩⟩
theorem strs_of_cells {t e : TypeId} (ht : P.underlying t = some (.slice e)) (he : P.underlying e = some .string) (hc : P.cellsOf e = 1) {W : World} {fuel : Nat} {cs : List Value} {x : DataW H × List MemPlace}
    (hfu : DataW.trod enc P W 0 (fun _ => true) true fuel t cs = some x) :
    ∃ (q : Option Addr) (cap : Nat) (l : List ByteArray), cs = [.slice q l.length cap] ∧ Strs W q l ∧ l.length ≤ cap ∧ cap ≤ 9223372036854775807 ∧ ∀ s ∈ l, s.size ≤ 9223372036854775807 := by
  obtain ⟨q, cap, l, h1, h2, h3, h4, h5⟩ := slice_of_cells strC (fun s => s.size ≤ 9223372036854775807) ht hc (by omega) (fun _ => rfl) (fun fuel cs x hx => by
    obtain ⟨s, rfl, _, hw⟩ := DataW.trod_string he hx
    exact ⟨s, rfl, by unfold maxLen at hw; omega⟩) hfu
  exact ⟨q, cap, l, h1, by unfold Strs; rw [strs_flat]; exact h2, h3, h4, h5⟩
/-- Four ints in a row. -/
theorem four_of_cells {t ti : TypeId} {f0 f1 f2 f3 : Field} (he : P.underlying t = some (.struct #[f0, f1, f2, f3])) (hc : P.cellsOf t = 4) (hi : P.underlying ti = some (.int .i64)) (hci : P.cellsOf ti = 1)
    (ho : (f0.type = ti ∧ f0.offset = 0) ∧ (f1.type = ti ∧ f1.offset = 1) ∧ (f2.type = ti ∧ f2.offset = 2) ∧ (f3.type = ti ∧ f3.offset = 3)) {W : World} {fuel : Nat} {cs : List Value} {x : DataW H × List MemPlace}
    (hfu : DataW.trod enc P W 0 (fun _ => true) true fuel t cs = some x) : ∃ a : Fib, cs = fibC a ∧ (In64 a.a ∧ In64 a.b ∧ In64 a.len ∧ In64 a.risk) := by
  obtain ⟨⟨o1, o2⟩, ⟨o3, o4⟩, ⟨o5, o6⟩, ⟨o7, o8⟩⟩ := ho
  obtain ⟨y0, y1, y2, y3, n, _, hlen, h0, h1, h2, h3⟩ := trod_struct4 he hfu
  rw [o1, o2, hci] at h0
  rw [o3, o4, hci] at h1
  rw [o5, o6, hci] at h2
  rw [o7, o8, hci] at h3
  obtain ⟨a, ha, _, wa⟩ := DataW.trod_int hi h0
  obtain ⟨b, hb, _, wb⟩ := DataW.trod_int hi h1
  obtain ⟨c, hc', _, wc⟩ := DataW.trod_int hi h2
  obtain ⟨d, hd, _, wd⟩ := DataW.trod_int hi h3
  rw [hc] at hlen
  match cs, hlen with
  | [u0, u1, u2, u3], _ =>
    simp at ha hb hc' hd
    exact ⟨⟨a, b, c, d⟩, by rw [ha, hb, hc', hd], bounds_i64 wa, bounds_i64 wb, bounds_i64 wc, bounds_i64 wd⟩
theorem fours_of_cells {t e ti : TypeId} {f0 f1 f2 f3 : Field} (ht : P.underlying t = some (.slice e)) (he : P.underlying e = some (.struct #[f0, f1, f2, f3])) (hc : P.cellsOf e = 4) (hi : P.underlying ti = some (.int .i64)) (hci : P.cellsOf ti = 1)
    (ho : (f0.type = ti ∧ f0.offset = 0) ∧ (f1.type = ti ∧ f1.offset = 1) ∧ (f2.type = ti ∧ f2.offset = 2) ∧ (f3.type = ti ∧ f3.offset = 3)) {W : World} {fuel : Nat} {cs : List Value} {x : DataW H × List MemPlace}
    (hfu : DataW.trod enc P W 0 (fun _ => true) true fuel t cs = some x) :
    ∃ (q : Option Addr) (cap : Nat) (l : List Fib), cs = [.slice q l.length cap] ∧ Fibs W q l ∧ l.length ≤ cap ∧ cap ≤ 9223372036854775807 ∧ ∀ a ∈ l, In64 a.a ∧ In64 a.b ∧ In64 a.len ∧ In64 a.risk :=
  slice_of_cells fibC _ ht hc (by omega) (fun _ => rfl) (fun _ _ _ hx => four_of_cells he hc hi hci ho hx) hfu
end

theorem cells_i : Tryz.prog.cellsOf 3 = 1 := by kernel_rfl
theorem cells_s : Tryz.prog.cellsOf 9 = 1 := by kernel_rfl
theorem cells_fib : Tryz.prog.cellsOf 125 = 4 := by kernel_rfl
theorem cells_sl : Tryz.prog.cellsOf 22 = 1 := by kernel_rfl
theorem cells_fl : Tryz.prog.cellsOf 23 = 1 := by kernel_rfl
theorem cells_net : Tryz.prog.cellsOf 25 = 2 := by kernel_rfl
section
variable {H : Type} {enc : TypeId × Value → H}
set_option maxRecDepth 100000 in
theorem net_of_cells {W : World} {fuel : Nat} {cs : List Value} {x : DataW H × List MemPlace} (h : DataW.trod enc Tryz.prog W 0 (fun _ => true) true fuel 25 cs = some x) :
    ∃ n, NetRaw W (.agg cs.toArray) n := by
  obtain ⟨y0, y1, k, _, hlen, h0, h1⟩ := trod_struct2 Tryz.underlying25 h
  rw [cells_net] at hlen
  match cs, hlen with
  | [u0, u1], _ =>
    have h0' : DataW.trod enc Tryz.prog W 0 (fun _ => true) true k 22 [u0] = some y0 := by
      have := h0; simp only at this; rw [cells_sl] at this; exact this
    have h1' : DataW.trod enc Tryz.prog W 0 (fun _ => true) true k 23 [u1] = some y1 := by
      have := h1; simp only at this; rw [cells_fl] at this; exact this
    obtain ⟨q, c, N, e0, hN, hc, hcm, hsz⟩ := strs_of_cells Tryz.underlying22 Tryz.underlying9 cells_s h0'
    obtain ⟨p, d, F, e1, hF, hd, hdm, _⟩ := fours_of_cells Tryz.underlying23 Tryz.underlying125 cells_fib Tryz.underlying3 cells_i ⟨⟨rfl, rfl⟩, ⟨rfl, rfl⟩, ⟨rfl, rfl⟩, ⟨rfl, rfl⟩⟩ h1'
    cases e0; cases e1
    exact ⟨⟨N, F⟩, q, c, p, d, rfl, hN, hF, by simp only; omega, by simp only; omega, hc, hcm, hsz⟩
set_option maxRecDepth 100000 in
theorem net_of_trod {W : World} {r : Reach} {b : Nat} {v : Value} {d : DataW H} {p : List MemPlace} (hok : Value.okWide Tryz.prog W r b 25 v)
    (h : DataW.Trod enc Tryz.prog W 0 (fun _ => true) true 25 v d p) : ∃ n, NetRaw W v n := by
  obtain ⟨cs, rfl, _⟩ := okWide_struct Tryz.underlying25 hok
  obtain ⟨fuel, hfu⟩ := h
  have := net_of_cells hfu
  simpa [Value.cells] using this
set_option maxRecDepth 100000 in
/-- A slice of four ints each that came in. -/
theorem fours_of_trod {t e ti : TypeId} {f0 f1 f2 f3 : Field} (ht : Tryz.prog.underlying t = some (.slice e)) (he : Tryz.prog.underlying e = some (.struct #[f0, f1, f2, f3])) (hc : Tryz.prog.cellsOf e = 4) (hi : Tryz.prog.underlying ti = some (.int .i64)) (hci : Tryz.prog.cellsOf ti = 1)
    (ho : (f0.type = ti ∧ f0.offset = 0) ∧ (f1.type = ti ∧ f1.offset = 1) ∧ (f2.type = ti ∧ f2.offset = 2) ∧ (f3.type = ti ∧ f3.offset = 3)) {W : World} {r : Reach} {b : Nat} {v : Value} {d : DataW H} {p : List MemPlace}
    (hok : Value.okWide Tryz.prog W r b t v) (h : DataW.Trod enc Tryz.prog W 0 (fun _ => true) true t v d p) :
    ∃ (q : Option Addr) (cap : Nat) (l : List Fib), v = .slice q l.length cap ∧ Fibs W q l ∧ l.length ≤ 9223372036854775807 := by
  obtain ⟨a0, len, cap, rfl⟩ := okWide_slice ht hok
  obtain ⟨fuel, hfu⟩ := h
  obtain ⟨q, cap', l, h1, h2, h3, h4, _⟩ := fours_of_cells ht he hc hi hci ho hfu
  simp [Value.cells] at h1
  obtain ⟨rfl, rfl, rfl⟩ := h1
  exact ⟨_, _, l, rfl, h2, by omega⟩
end
end Go.Proofs.YtjhaoonacjebpaaGreatDoor

/- Networks as one value (shape; copied). Lemmas that keep cells over calls. -/
namespace Go.Proofs.YtjhaoonacjebpaaGreatDoor
open Go.RowKit Go.PlainAid

theorem NetRaw.shape {w : World} {v : Value} {n : Net} (h : NetRaw w v n) : ∃ q m c p k d, v = .agg #[.slice q m c, .slice p k d] := by
  obtain ⟨q, c, p, d, h1, _⟩ := h
  exact ⟨_, _, _, _, _, _, h1⟩
theorem NetIn.shape {w : World} {v : Value} {n : Net} (h : NetIn w v n) : ∃ q m c p k d, v = .agg #[.slice q m c, .slice p k d] := by
  obtain ⟨q, c, p, d, h1, _⟩ := h
  exact ⟨_, _, _, _, _, _, h1⟩
theorem NetIn.isSmall {w : World} {v : Value} {n : Net} (h : NetIn w v n) : NetSmall n := by
  obtain ⟨q, c, p, d, _, _, _, h1, h2, _, _, h3⟩ := h
  exact ⟨⟨h1, h3⟩, h2⟩
theorem toNet_k (v : Value) (n : Net) (w : World) (h : NetIn w v n) : Calls Tryz.prog 18 #[v] w fun e w' => ∃ v', e = .returned v' ∧ NetIn w' v' n ∧ Fresh w w' :=
  (toNetwork_any v n w h).mono fun _ _ ⟨v', he, ho, hf⟩ => ⟨v', he, ho.net h.isSmall, hf⟩
theorem keepc4 {w w1 w2 : World} {b0 o0 b1 o1 b2 o2 b3 o3 : Nat} {v0 v1 v2 v3 : Value} (h : Fresh w w1 ∧ w1.cell? ⟨b0, o0, none⟩ = some v0 ∧ w1.cell? ⟨b1, o1, none⟩ = some v1 ∧ w1.cell? ⟨b2, o2, none⟩ = some v2 ∧ w1.cell? ⟨b3, o3, none⟩ = some v3) (hb : Fresh w1 w2) : Fresh w w2 ∧ w2.cell? ⟨b0, o0, none⟩ = some v0 ∧ w2.cell? ⟨b1, o1, none⟩ = some v1 ∧ w2.cell? ⟨b2, o2, none⟩ = some v2 ∧ w2.cell? ⟨b3, o3, none⟩ = some v3 :=
  ⟨fstep h.1 hb, fkeep hb h.2.1, fkeep hb h.2.2.1, fkeep hb h.2.2.2.1, fkeep hb h.2.2.2.2⟩
theorem keepc5 {w w1 w2 : World} {b0 o0 b1 o1 b2 o2 b3 o3 b4 o4 : Nat} {v0 v1 v2 v3 v4 : Value} (h : Fresh w w1 ∧ w1.cell? ⟨b0, o0, none⟩ = some v0 ∧ w1.cell? ⟨b1, o1, none⟩ = some v1 ∧ w1.cell? ⟨b2, o2, none⟩ = some v2 ∧ w1.cell? ⟨b3, o3, none⟩ = some v3 ∧ w1.cell? ⟨b4, o4, none⟩ = some v4) (hb : Fresh w1 w2) : Fresh w w2 ∧ w2.cell? ⟨b0, o0, none⟩ = some v0 ∧ w2.cell? ⟨b1, o1, none⟩ = some v1 ∧ w2.cell? ⟨b2, o2, none⟩ = some v2 ∧ w2.cell? ⟨b3, o3, none⟩ = some v3 ∧ w2.cell? ⟨b4, o4, none⟩ = some v4 :=
  ⟨fstep h.1 hb, fkeep hb h.2.1, fkeep hb h.2.2.1, fkeep hb h.2.2.2.1, fkeep hb h.2.2.2.2.1, fkeep hb h.2.2.2.2.2⟩
theorem keepc6 {w w1 w2 : World} {b0 o0 b1 o1 b2 o2 b3 o3 b4 o4 b5 o5 : Nat} {v0 v1 v2 v3 v4 v5 : Value} (h : Fresh w w1 ∧ w1.cell? ⟨b0, o0, none⟩ = some v0 ∧ w1.cell? ⟨b1, o1, none⟩ = some v1 ∧ w1.cell? ⟨b2, o2, none⟩ = some v2 ∧ w1.cell? ⟨b3, o3, none⟩ = some v3 ∧ w1.cell? ⟨b4, o4, none⟩ = some v4 ∧ w1.cell? ⟨b5, o5, none⟩ = some v5) (hb : Fresh w1 w2) : Fresh w w2 ∧ w2.cell? ⟨b0, o0, none⟩ = some v0 ∧ w2.cell? ⟨b1, o1, none⟩ = some v1 ∧ w2.cell? ⟨b2, o2, none⟩ = some v2 ∧ w2.cell? ⟨b3, o3, none⟩ = some v3 ∧ w2.cell? ⟨b4, o4, none⟩ = some v4 ∧ w2.cell? ⟨b5, o5, none⟩ = some v5 :=
  ⟨fstep h.1 hb, fkeep hb h.2.1, fkeep hb h.2.2.1, fkeep hb h.2.2.2.1, fkeep hb h.2.2.2.2.1, fkeep hb h.2.2.2.2.2.1, fkeep hb h.2.2.2.2.2.2⟩
theorem keepc7 {w w1 w2 : World} {b0 o0 b1 o1 b2 o2 b3 o3 b4 o4 b5 o5 b6 o6 : Nat} {v0 v1 v2 v3 v4 v5 v6 : Value} (h : Fresh w w1 ∧ w1.cell? ⟨b0, o0, none⟩ = some v0 ∧ w1.cell? ⟨b1, o1, none⟩ = some v1 ∧ w1.cell? ⟨b2, o2, none⟩ = some v2 ∧ w1.cell? ⟨b3, o3, none⟩ = some v3 ∧ w1.cell? ⟨b4, o4, none⟩ = some v4 ∧ w1.cell? ⟨b5, o5, none⟩ = some v5 ∧ w1.cell? ⟨b6, o6, none⟩ = some v6) (hb : Fresh w1 w2) : Fresh w w2 ∧ w2.cell? ⟨b0, o0, none⟩ = some v0 ∧ w2.cell? ⟨b1, o1, none⟩ = some v1 ∧ w2.cell? ⟨b2, o2, none⟩ = some v2 ∧ w2.cell? ⟨b3, o3, none⟩ = some v3 ∧ w2.cell? ⟨b4, o4, none⟩ = some v4 ∧ w2.cell? ⟨b5, o5, none⟩ = some v5 ∧ w2.cell? ⟨b6, o6, none⟩ = some v6 :=
  ⟨fstep h.1 hb, fkeep hb h.2.1, fkeep hb h.2.2.1, fkeep hb h.2.2.2.1, fkeep hb h.2.2.2.2.1, fkeep hb h.2.2.2.2.2.1, fkeep hb h.2.2.2.2.2.2.1, fkeep hb h.2.2.2.2.2.2.2⟩
theorem keepc8 {w w1 w2 : World} {b0 o0 b1 o1 b2 o2 b3 o3 b4 o4 b5 o5 b6 o6 b7 o7 : Nat} {v0 v1 v2 v3 v4 v5 v6 v7 : Value} (h : Fresh w w1 ∧ w1.cell? ⟨b0, o0, none⟩ = some v0 ∧ w1.cell? ⟨b1, o1, none⟩ = some v1 ∧ w1.cell? ⟨b2, o2, none⟩ = some v2 ∧ w1.cell? ⟨b3, o3, none⟩ = some v3 ∧ w1.cell? ⟨b4, o4, none⟩ = some v4 ∧ w1.cell? ⟨b5, o5, none⟩ = some v5 ∧ w1.cell? ⟨b6, o6, none⟩ = some v6 ∧ w1.cell? ⟨b7, o7, none⟩ = some v7) (hb : Fresh w1 w2) : Fresh w w2 ∧ w2.cell? ⟨b0, o0, none⟩ = some v0 ∧ w2.cell? ⟨b1, o1, none⟩ = some v1 ∧ w2.cell? ⟨b2, o2, none⟩ = some v2 ∧ w2.cell? ⟨b3, o3, none⟩ = some v3 ∧ w2.cell? ⟨b4, o4, none⟩ = some v4 ∧ w2.cell? ⟨b5, o5, none⟩ = some v5 ∧ w2.cell? ⟨b6, o6, none⟩ = some v6 ∧ w2.cell? ⟨b7, o7, none⟩ = some v7 :=
  ⟨fstep h.1 hb, fkeep hb h.2.1, fkeep hb h.2.2.1, fkeep hb h.2.2.2.1, fkeep hb h.2.2.2.2.1, fkeep hb h.2.2.2.2.2.1, fkeep hb h.2.2.2.2.2.2.1, fkeep hb h.2.2.2.2.2.2.2.1, fkeep hb h.2.2.2.2.2.2.2.2⟩
theorem keepc9 {w w1 w2 : World} {b0 o0 b1 o1 b2 o2 b3 o3 b4 o4 b5 o5 b6 o6 b7 o7 b8 o8 : Nat} {v0 v1 v2 v3 v4 v5 v6 v7 v8 : Value} (h : Fresh w w1 ∧ w1.cell? ⟨b0, o0, none⟩ = some v0 ∧ w1.cell? ⟨b1, o1, none⟩ = some v1 ∧ w1.cell? ⟨b2, o2, none⟩ = some v2 ∧ w1.cell? ⟨b3, o3, none⟩ = some v3 ∧ w1.cell? ⟨b4, o4, none⟩ = some v4 ∧ w1.cell? ⟨b5, o5, none⟩ = some v5 ∧ w1.cell? ⟨b6, o6, none⟩ = some v6 ∧ w1.cell? ⟨b7, o7, none⟩ = some v7 ∧ w1.cell? ⟨b8, o8, none⟩ = some v8) (hb : Fresh w1 w2) : Fresh w w2 ∧ w2.cell? ⟨b0, o0, none⟩ = some v0 ∧ w2.cell? ⟨b1, o1, none⟩ = some v1 ∧ w2.cell? ⟨b2, o2, none⟩ = some v2 ∧ w2.cell? ⟨b3, o3, none⟩ = some v3 ∧ w2.cell? ⟨b4, o4, none⟩ = some v4 ∧ w2.cell? ⟨b5, o5, none⟩ = some v5 ∧ w2.cell? ⟨b6, o6, none⟩ = some v6 ∧ w2.cell? ⟨b7, o7, none⟩ = some v7 ∧ w2.cell? ⟨b8, o8, none⟩ = some v8 :=
  ⟨fstep h.1 hb, fkeep hb h.2.1, fkeep hb h.2.2.1, fkeep hb h.2.2.2.1, fkeep hb h.2.2.2.2.1, fkeep hb h.2.2.2.2.2.1, fkeep hb h.2.2.2.2.2.2.1, fkeep hb h.2.2.2.2.2.2.2.1, fkeep hb h.2.2.2.2.2.2.2.2.1, fkeep hb h.2.2.2.2.2.2.2.2.2⟩
theorem keepc10 {w w1 w2 : World} {b0 o0 b1 o1 b2 o2 b3 o3 b4 o4 b5 o5 b6 o6 b7 o7 b8 o8 b9 o9 : Nat} {v0 v1 v2 v3 v4 v5 v6 v7 v8 v9 : Value} (h : Fresh w w1 ∧ w1.cell? ⟨b0, o0, none⟩ = some v0 ∧ w1.cell? ⟨b1, o1, none⟩ = some v1 ∧ w1.cell? ⟨b2, o2, none⟩ = some v2 ∧ w1.cell? ⟨b3, o3, none⟩ = some v3 ∧ w1.cell? ⟨b4, o4, none⟩ = some v4 ∧ w1.cell? ⟨b5, o5, none⟩ = some v5 ∧ w1.cell? ⟨b6, o6, none⟩ = some v6 ∧ w1.cell? ⟨b7, o7, none⟩ = some v7 ∧ w1.cell? ⟨b8, o8, none⟩ = some v8 ∧ w1.cell? ⟨b9, o9, none⟩ = some v9) (hb : Fresh w1 w2) : Fresh w w2 ∧ w2.cell? ⟨b0, o0, none⟩ = some v0 ∧ w2.cell? ⟨b1, o1, none⟩ = some v1 ∧ w2.cell? ⟨b2, o2, none⟩ = some v2 ∧ w2.cell? ⟨b3, o3, none⟩ = some v3 ∧ w2.cell? ⟨b4, o4, none⟩ = some v4 ∧ w2.cell? ⟨b5, o5, none⟩ = some v5 ∧ w2.cell? ⟨b6, o6, none⟩ = some v6 ∧ w2.cell? ⟨b7, o7, none⟩ = some v7 ∧ w2.cell? ⟨b8, o8, none⟩ = some v8 ∧ w2.cell? ⟨b9, o9, none⟩ = some v9 :=
  ⟨fstep h.1 hb, fkeep hb h.2.1, fkeep hb h.2.2.1, fkeep hb h.2.2.2.1, fkeep hb h.2.2.2.2.1, fkeep hb h.2.2.2.2.2.1, fkeep hb h.2.2.2.2.2.2.1, fkeep hb h.2.2.2.2.2.2.2.1, fkeep hb h.2.2.2.2.2.2.2.2.1, fkeep hb h.2.2.2.2.2.2.2.2.2.1, fkeep hb h.2.2.2.2.2.2.2.2.2.2⟩
end Go.Proofs.YtjhaoonacjebpaaGreatDoor

/- The name made of a number, and such names laid into a slice of strings. -/
namespace Go.Proofs.YtjhaoonacjebpaaGreatDoor
open Go.RowKit Go.PlainAid

/-- The text of a number, digit by digit. -/
def mloop : Nat → Int → ByteArray → ByteArray
  | 0, _, o => o
  | f + 1, k, o => if 0 < k then mloop f (k / 10) (strOfNums [48 + k % 10] ++ o) else o
theorem mloop_zero (f : Nat) {k : Int} (o : ByteArray) (h : ¬ 0 < k) : mloop f k o = o := by
  cases f with
  | zero => rfl
  | succ f => unfold mloop; rw [if_neg h]
def mtxt (k : Int) : ByteArray := if k ≤ 0 then ⟨#[109, 48]⟩ else ⟨#[109]⟩ ++ mloop 20 k ⟨#[]⟩

theorem conv_one (w : World) (x : Int) : (convert 132 9 (.slice (some ⟨w.heap.size, 0, none⟩) 1 1)).run Tryz.prog (w.alloc (.cells #[.int .u8 x] 5)) = .ok (.string (strOfNums [x])) (w.alloc (.cells #[.int .u8 x] 5)) :=
  run_convert_bytes_arg _ _ 5 Tryz.underlying132 Tryz.underlying5 _ _ 1 1 [x] rfl (fun i hi => by
    obtain rfl : i = 0 := by omega
    exact (RowAt.new w 5 [.int .u8 x]).cell (i := 0) rfl) _ Tryz.underlying9
set_option maxHeartbeats 1000000 in
set_option maxRecDepth 20000 in
theorem markText_any (k : Int) (w : World) (h0 : 0 ≤ k) (h1 : k ≤ 1152921504606846976) :
    Calls Tryz.prog 118 #[.int .i64 k] w fun e w' => e = .returned (.string (mtxt k)) ∧ Fresh w w' := by
  by_cases hk : k ≤ 0
  · go_enter Tryz.func118, Tryz.ntmps118
    go_wp2
    go_ret
    refine ⟨?_, frefl _⟩
    unfold mtxt; rw [if_pos hk]; rfl
  · go_enter Tryz.func118, Tryz.ntmps118
    go_wp2
    go_loopw [0, 3] (fun kv ov wr => ∃ (f : Nat) (kk : Int) (o : ByteArray), o.size + f ≤ 20 ∧ kv = .int .i64 kk ∧ ov = .string o ∧ 0 ≤ kk ∧ kk ≤ 1152921504606846976 ∧ kk < 10 ^ f ∧ mloop f kk o = mloop 20 k ⟨#[]⟩ ∧ Fresh w wr) (fun kv _ _ => (intOf kv).toNat)
    case atStart => exact ⟨20, k, _, by decide, rfl, rfl, h0, h1, by omega, rfl, frefl _⟩
    case round =>
      obtain ⟨f, kk, o, hos, rfl, rfl, hk0, hk1, hkf, hlo, hb⟩ := hrel
      have HB := Lib.hid hb
      have HL := Lib.hid hlo
      have HKF := Lib.hid hkf
      clear hb hlo hkf
      by_cases hz : 0 < kk
      · have hs1 : (strOfNums [48 + kk % 10]).size = 1 := rfl
        have hcv := conv_one wr (48 + kk % 10)
        have hsz : (9223372036854775807 : Int) < 1 + o.size ↔ False := ⟨fun h => by omega, fun h => h.elim⟩
        go_wp2
        go_roundw
        case rel =>
          rcases f with _ | f
          · have := HKF.out; simp at this; omega
          · have hk10 := HKF.out
            rw [Int.pow_succ] at hk10
            refine ⟨f, kk / 10, _, ?_, rfl, rfl, by omega, by omega, by omega, ?_, fnew HB.out _⟩
            · rw [ByteArray.size_append, hs1]; omega
            · rw [← HL.out]; conv => rhs; unfold mloop
              rw [if_pos hz]
        case measure => simp [intOf]; omega
      · have hsz : (9223372036854775807 : Int) < 1 + o.size ↔ False := ⟨fun h => by omega, fun h => h.elim⟩
        have hf0 : kk = 0 := by omega
        go_wp2
        go_ret
        refine ⟨?_, HB.out⟩
        show Ending.returned (.string (⟨#[109]⟩ ++ o)) = _
        unfold mtxt
        rw [if_neg (by omega), ← HL.out, mloop_zero _ _ (by omega)]

abbrev strT : TypeId → Prop := fun t => t = 9
set_option maxHeartbeats 2000000 in
theorem markStringS_m (p : Option Addr) (cap n lo hi : Nat) (k0 : Int) (w : World) (ho : OwnIn w lo hi 9 p n) (hlo : lo ≤ w.heap.size) (hn : n ≤ 1048576) (h0 : 0 ≤ k0) (h1 : k0 ≤ 1125899906842624) :
    Calls Tryz.prog 72 #[.slice p n cap, .int .i64 k0] w fun e w' => e = .returned (.int .i64 (k0 + n)) ∧ Mk strT lo hi w w' := by
  go_enter Tryz.func72, Tryz.ntmps72
  go_wp2
  go_loopw [1, 5] (fun kk i wr => ∃ j : Nat, j ≤ n ∧ i = .int .i64 j ∧ kk = .int .i64 (k0 + j) ∧ Mk strT lo hi w wr) (fun _ i _ => n - (intOf i).toNat)
  case atStart => exact ⟨0, Nat.zero_le _, rfl, by simp, Mk.refl _ _ _ _⟩
  case round =>
    obtain ⟨j, hj, rfl, rfl, hb⟩ := hrel
    have HB := Lib.hid hb
    clear hb
    by_cases hlt : j < n
    · have ho' := ho.mk HB.out
      rcases ho' with hnil | ⟨g, cs, rfl, hl, hh, hr, hcs⟩
      · omega
      · have hc := hr.cell (show cs[j]? = some cs[j] from List.getElem?_eq_getElem (by omega))
        have hf := hr.frozen j
        have HR := Lib.hid hr
        have HO := Lib.hid ho
        clear hr ho hc hf
        go_wp2_with fail
        refine (markText_any _ _ (by omega) (by omega)).mono ?_
        rintro e w1 ⟨rfl, hb1⟩
        have hr1 := HR.out.keep hb1
        have hc := hr1.cell (show cs[j]? = some cs[j] from List.getElem?_eq_getElem (by omega))
        have hf := hr1.frozen j
        have HR1 := Lib.hid hr1
        have HB1 := Lib.hid (HB.out.trans (Mk.fresh (T := strT) (hi := hi) hb1 (Nat.le_trans hlo HB.out.low.size)))
        clear hr1 hb1 HR
        go_wp2
        go_roundw
        case rel => exact ⟨j + 1, by omega, by go_num, by go_num, HB1.out.set HR1.out rfl hl hh j _⟩
        case measure => simp [intOf]; omega
    · have hjn : j = n := by omega
      subst hjn
      go_wp2
      go_ret
      exact ⟨rfl, HB.out⟩
end Go.Proofs.YtjhaoonacjebpaaGreatDoor

/- Marks of arguments: fibers, demands, a network. -/
namespace Go.Proofs.YtjhaoonacjebpaaGreatDoor
open Go.RowKit Go.PlainAid

abbrev fibT : TypeId → Prop := fun t => t = 96
set_option maxHeartbeats 2000000 in
theorem markFiberS_m (p : Option Addr) (cap n lo hi : Nat) (k0 : Int) (w : World) (ho : OwnIn w lo hi 96 p (n * 4)) (hn : n ≤ 1048576) (h0 : 0 ≤ k0) (h1 : k0 ≤ 1125899906842624) :
    Calls Tryz.prog 73 #[.slice p n cap, .int .i64 k0] w fun e w' => e = .returned (.int .i64 (k0 + 4 * n)) ∧ Mk fibT lo hi w w' := by
  go_enter Tryz.func73, Tryz.ntmps73
  go_wp2
  go_loopw [1, 5] (fun kk i wr => ∃ j : Nat, j ≤ n ∧ i = .int .i64 j ∧ kk = .int .i64 (k0 + 4 * j) ∧ Mk fibT lo hi w wr) (fun _ i _ => n - (intOf i).toNat)
  case atStart => exact ⟨0, Nat.zero_le _, rfl, by simp, Mk.refl _ _ _ _⟩
  case round =>
    obtain ⟨j, hj, rfl, rfl, hb⟩ := hrel
    have HB := Lib.hid hb
    clear hb
    by_cases hlt : j < n
    · have ho' := ho.mk HB.out
      rcases ho' with hnil | ⟨g, cs, rfl, hl, hh, hr, hcs⟩
      · omega
      · have hc0 : wr.cell? ⟨g, j * 4, none⟩ = some cs[j * 4] := hr.cell (List.getElem?_eq_getElem (by omega))
        have hc1 : wr.cell? ⟨g, j * 4 + 1, none⟩ = some cs[j * 4 + 1] := hr.cell (List.getElem?_eq_getElem (by omega))
        have hc2 : wr.cell? ⟨g, j * 4 + 2, none⟩ = some cs[j * 4 + 2] := hr.cell (List.getElem?_eq_getElem (by omega))
        have hc3 : wr.cell? ⟨g, j * 4 + 3, none⟩ = some cs[j * 4 + 3] := hr.cell (List.getElem?_eq_getElem (by omega))
        have hf0 := hr.frozen (j * 4)
        have hf1 := hr.frozen (j * 4 + 1)
        have hf2 := hr.frozen (j * 4 + 2)
        have hf3 := hr.frozen (j * 4 + 3)
        have HR := Lib.hid hr
        clear hr ho
        go_wp2
        go_roundw
        case rel =>
          have r1 := HR.out.set (j * 4) (iv (k0 + 4 * j))
          have r2 := r1.set (j * 4 + 1) (iv (k0 + 4 * j + 1))
          have r3 := r2.set (j * 4 + 2) (iv (k0 + 4 * j + 2))
          refine ⟨j + 1, by omega, by go_num, by go_num, ?_⟩
          exact (((HB.out.set HR.out rfl hl hh _ _).set (HR.out.set _ _) rfl hl hh _ _).set ((HR.out.set _ _).set _ _) rfl hl hh _ _).set (((HR.out.set _ _).set _ _).set _ _) rfl hl hh _ _
        case measure => simp [intOf]; omega
    · have hjn : j = n := by omega
      subst hjn
      go_wp2
      go_ret
      exact ⟨rfl, HB.out⟩

/-- A network of the argument's own, in the blocks lo .. hi. -/
def NetMine (w : World) (lo hi : Nat) (v : Value) : Prop := ∃ q m c p k d, v = .agg #[.slice q m c, .slice p k d] ∧ OwnIn w lo hi 9 q m ∧ OwnIn w lo hi 96 p (k * 4) ∧ m ≤ 1048576 ∧ k ≤ 1048576
theorem NetMine.keep {w w' : World} {lo hi : Nat} {v : Value} (h : NetMine w lo hi v) (hb : Fresh w w') : NetMine w' lo hi v := by
  obtain ⟨q, m, c, p, k, d, h1, h2, h3, r⟩ := h
  exact ⟨q, m, c, p, k, d, h1, h2.keep hb, h3.keep hb, r⟩
theorem NetMine.mk {T : TypeId → Prop} {lo' hi' : Nat} {w w' : World} {lo hi : Nat} {v : Value} (h : NetMine w lo hi v) (hb : Mk T lo' hi' w w') : NetMine w' lo hi v := by
  obtain ⟨q, m, c, p, k, d, h1, h2, h3, r⟩ := h
  exact ⟨q, m, c, p, k, d, h1, h2.mk hb, h3.mk hb, r⟩
theorem NetMine.wide {w : World} {lo hi lo' hi' : Nat} {v : Value} (h : NetMine w lo hi v) (hl : lo' ≤ lo) (hh : hi ≤ hi') : NetMine w lo' hi' v := by
  obtain ⟨q, m, c, p, k, d, h1, h2, h3, r⟩ := h
  exact ⟨q, m, c, p, k, d, h1, h2.wide hl hh, h3.wide hl hh, r⟩
theorem NetOwn.mine {w : World} {base : Nat} {v : Value} {n : Net} (h : NetOwn w base v n) (hs : NetSmall n) : NetMine w base w.heap.size v := by
  obtain ⟨g1, g2, h1, h2, h3, h4, h5⟩ := h
  refine ⟨_, _, _, _, _, _, h1, ?_, ?_, hs.1.1, hs.2⟩
  · have := h4.ownIn h2
    rwa [flat_len strC 1 (fun _ => rfl), Nat.mul_one] at this
  · have := h5.ownIn (show base ≤ g2 by omega)
    rwa [flat_len fibC 4 (fun _ => rfl)] at this
theorem toNet_o (v : Value) (n : Net) (w : World) (h : NetIn w v n) : Calls Tryz.prog 18 #[v] w fun e w' => ∃ v', e = .returned v' ∧ NetIn w' v' n ∧ NetMine w' w.heap.size w'.heap.size v' ∧ Fresh w w' :=
  (toNetwork_any v n w h).mono (fun _e _w' ⟨v', h1, h2, h3⟩ => ⟨v', h1, h2.net h.isSmall, h2.mine h.isSmall, h3⟩)
abbrev netT : TypeId → Prop := fun t => t = 9 ∨ t = 96
set_option maxHeartbeats 2000000 in
theorem markNet_m (v : Value) (lo hi : Nat) (k0 : Int) (w : World) (h : NetMine w lo hi v) (hlo : lo ≤ w.heap.size) (hhi : hi ≤ w.heap.size) (h0 : 0 ≤ k0) (h1 : k0 ≤ 562949953421312) :
    Calls Tryz.prog 34 #[v, .int .i64 k0] w (MkOut w netT lo hi k0) := by
  obtain ⟨q, m, c, p, k, d, rfl, hq, hp, hm, hk⟩ := h
  obtain ⟨W1, hW1⟩ : ∃ W1, W1 = w.alloc (.cells #[.slice q m c, .slice p k d] 34) := ⟨_, rfl⟩
  have hf : Fresh w W1 := by rw [hW1]; exact fnew (frefl _) _
  have hr : RowAt W1 w.heap.size 34 [.slice q m c, .slice p k d] := by rw [hW1]; exact RowAt.new _ _ _
  have hz := hf.size
  have c0 := hr.cell (i := 0) rfl
  have c1 := hr.cell (i := 1) rfl
  have HW := Lib.hid hW1
  have HF := Lib.hid hf
  have HR := Lib.hid hr
  have HQ := Lib.hid hq
  have HP := Lib.hid hp
  clear hW1 hf hr hq hp
  go_enter Tryz.func34, Tryz.ntmps34
  go_wp2_with fail
  rw [← HW.out]
  clear HW
  refine (markStringS_m q c m lo hi k0 _ (HQ.out.keep HF.out) (by omega) hm h0 (by omega)).mono ?_
  rintro e w1 ⟨rfl, hb1⟩
  have c1 := hb1.cell (Or.inr hhi) (HR.out.cell (i := 1) rfl)
  have HM := Lib.hid hb1
  clear hb1 c0
  go_wp2_with fail
  refine (markFiberS_m p d k lo hi (k0 + m) _ ((HP.out.keep HF.out).mk HM.out) hk (by omega) (by omega)).mono ?_
  rintro e w2 ⟨rfl, hb2⟩
  have HM2 := Lib.hid hb2
  clear hb2 c1
  go_wp2
  go_ret
  refine ⟨_, rfl, by omega, (by show (_ : Int) ≤ k0 + 8796093022208; omega), ?_⟩
  exact (Mk.fresh HF.out hlo).trans ((HM.out.more (fun t h => Or.inl h)).trans (HM2.out.more (fun t h => Or.inr h)))
end Go.Proofs.YtjhaoonacjebpaaGreatDoor

