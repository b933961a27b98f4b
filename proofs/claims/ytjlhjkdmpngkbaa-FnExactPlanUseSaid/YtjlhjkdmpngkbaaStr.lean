/- Contracts: names (the program), finding a string in a list, ranges and order of fibers. -/
import Derived.Test.YtjlhjkdmpngkbaaName
import Derived.StillTailTactics
namespace Go.Proofs.Ytjlhjkdmpngkbaa
open Go.RowKit Go.PlainAid

theorem rall_bad {f : Nat → Bool} {n k : Nat} (hk : k < n) (h : f k = false) : (List.range n).all f = false := by
  rw [List.all_eq_false]; exact ⟨k, List.mem_range.2 hk, by simp [h]⟩
theorem rall_end {f : Nat → Bool} {n : Nat} (h : ∀ k, k < n → f k = true) : (List.range n).all f = true := by
  rw [List.all_eq_true]; intro k hk; exact h k (List.mem_range.1 hk)
theorem l1In_q (x a b : Int) (w : World) (n : Nat) : Calls Try.prog 143 #[.int .i64 x, .int .i64 a, .int .i64 b] (w.drewN n) fun e w' => e = .returned (.bool (inB x a b)) ∧ w' = w.drewN n :=
  (l1In_any x a b _).mono fun _ _ ⟨h1, h2⟩ => ⟨h1, h2.symm⟩
theorem within_q (x a b : Int) (w : World) (n : Nat) : Calls Try.prog 91 #[.int .i64 x, .int .i64 a, .int .i64 b] (w.drewN n) fun e w' => e = .returned (.bool (inB x a b)) ∧ w' = w.drewN n :=
  (within_any x a b _).mono fun _ _ ⟨h1, h2⟩ => ⟨h1, h2.symm⟩

set_option maxHeartbeats 2000000 in
theorem isName_any (s : ByteArray) (w : World) (hs : s.size ≤ 9223372036854775807) :
    Calls Try.prog 138 #[.string s] w fun e w' => e = .returned (.bool (nameB s)) ∧ Fresh w w' := by
  have kb := get_bt s
  go_enter Try.func138, Try.ntmps138
  go_wp2
  go_loopw [3, 4, 5, 8] (fun c1 c2 c3 i wr => ∃ k : Nat, k ≤ s.size ∧ i = .int .i64 k ∧ (∀ j, j < k → okC s j = true) ∧ Fresh w wr) (fun _ _ _ i _ => s.size - (intOf i).toNat)
  case atStart => exact ⟨0, Nat.zero_le _, rfl, fun j hj => by omega, frefl _⟩
  case round =>
    obtain ⟨k, hk, rfl, hall, hf⟩ := hrel
    have HA := Lib.hid hall
    have HF := Lib.hid hf
    clear hall hf
    by_cases hlt : k < s.size
    · have hltz : (k : Int) < (s.size : Int) := by omega
      by_cases q1 : 97 ≤ bt s k
      · by_cases q2 : bt s k ≤ 122
        · have hok : okC s k = true := by unfold okC; rw [show letB (bt s k) = true from inB_t (by omega) (by omega), show digB (bt s k) = false from inB_f (by omega)]; rfl
          have hd1 : decide (97 ≤ bt s k) = true := decide_eq_true (by omega)
          have hd2 : decide (bt s k ≤ 122) = true := decide_eq_true (by omega)
          have hd3 : decide (48 ≤ bt s k) = true := decide_eq_true (by omega)
          have hd4 : decide (bt s k ≤ 57) = false := decide_eq_false (by omega)
          have HK := Lib.hid hok
          clear hok
          go_wp2
          go_quiet (fail)
          go_wp2
          go_roundw
          case rel => exact ⟨k + 1, by omega, by go_num, okStepC HA.out HK.out, fdrewN (HF.out) _⟩
          case measure => simp [intOf]; omega
        · have hok : okC s k = false := by unfold okC; rw [show letB (bt s k) = false from inB_f (by omega), show digB (bt s k) = false from inB_f (by omega)]; rfl
          have hd1 : decide (97 ≤ bt s k) = true := decide_eq_true (by omega)
          have hd2 : decide (bt s k ≤ 122) = false := decide_eq_false (by omega)
          have hd3 : decide (48 ≤ bt s k) = true := decide_eq_true (by omega)
          have hd4 : decide (bt s k ≤ 57) = false := decide_eq_false (by omega)
          have HN := Lib.hid (nameB_bad (s := s) hlt hok)
          clear hok
          go_wp2
          go_quiet (fail)
          go_wp2
          go_ret
          exact ⟨ret_bool HN.out.symm, fdrewN (HF.out) _⟩
      · by_cases q3 : 48 ≤ bt s k
        · by_cases q4 : bt s k ≤ 57
          · by_cases hz : k = 0
            · have hok : okC s k = false := by unfold okC; rw [show letB (bt s k) = false from inB_f (by omega), show digB (bt s k) = true from inB_t (by omega) (by omega)]; simp [hz]
              have hd1 : decide (97 ≤ bt s k) = false := decide_eq_false (by omega)
              have hd2 : decide (bt s k ≤ 122) = true := decide_eq_true (by omega)
              have hd3 : decide (48 ≤ bt s k) = true := decide_eq_true (by omega)
              have hd4 : decide (bt s k ≤ 57) = true := decide_eq_true (by omega)
              have hd5 : ((k : Int) == 0) = true := by simp [hz]
              clear hz
              have HN := Lib.hid (nameB_bad (s := s) hlt hok)
              clear hok
              go_wp2
              go_quiet (fail)
              go_wp2
              go_ret
              exact ⟨ret_bool HN.out.symm, fdrewN (HF.out) _⟩
            · have hok : okC s k = true := by unfold okC; rw [show letB (bt s k) = false from inB_f (by omega), show digB (bt s k) = true from inB_t (by omega) (by omega)]; simp [hz]
              have hd1 : decide (97 ≤ bt s k) = false := decide_eq_false (by omega)
              have hd2 : decide (bt s k ≤ 122) = true := decide_eq_true (by omega)
              have hd3 : decide (48 ≤ bt s k) = true := decide_eq_true (by omega)
              have hd4 : decide (bt s k ≤ 57) = true := decide_eq_true (by omega)
              have hd5 : ((k : Int) == 0) = false := by simp; omega
              have HK := Lib.hid hok
              clear hok
              go_wp2
              go_quiet (fail)
              go_wp2
              go_roundw
              case rel => exact ⟨k + 1, by omega, by go_num, okStepC HA.out HK.out, fdrewN (HF.out) _⟩
              case measure => simp [intOf]; omega
          · have hok : okC s k = false := by unfold okC; rw [show letB (bt s k) = false from inB_f (by omega), show digB (bt s k) = false from inB_f (by omega)]; rfl
            have hd1 : decide (97 ≤ bt s k) = false := decide_eq_false (by omega)
            have hd2 : decide (bt s k ≤ 122) = true := decide_eq_true (by omega)
            have hd3 : decide (48 ≤ bt s k) = true := decide_eq_true (by omega)
            have hd4 : decide (bt s k ≤ 57) = false := decide_eq_false (by omega)
            have HN := Lib.hid (nameB_bad (s := s) hlt hok)
            clear hok
            go_wp2
            go_quiet (fail)
            go_wp2
            go_ret
            exact ⟨ret_bool HN.out.symm, fdrewN (HF.out) _⟩
        · have hok : okC s k = false := by unfold okC; rw [show letB (bt s k) = false from inB_f (by omega), show digB (bt s k) = false from inB_f (by omega)]; rfl
          have hd1 : decide (97 ≤ bt s k) = false := decide_eq_false (by omega)
          have hd2 : decide (bt s k ≤ 122) = true := decide_eq_true (by omega)
          have hd3 : decide (48 ≤ bt s k) = false := decide_eq_false (by omega)
          have hd4 : decide (bt s k ≤ 57) = true := decide_eq_true (by omega)
          have HN := Lib.hid (nameB_bad (s := s) hlt hok)
          clear hok
          go_wp2
          go_quiet (fail)
          go_wp2
          go_ret
          exact ⟨ret_bool HN.out.symm, fdrewN (HF.out) _⟩
    · have hkn : k = s.size := by omega
      have HN := Lib.hid (nameB_end (s := s) (by rw [← hkn]; exact HA.out))
      have hltz : ¬ (k : Int) < (s.size : Int) := by omega
      go_wp2_with (go_at_call 91; refine (within_any _ _ _ _).mono ?_; rintro e w' ⟨rfl, rfl⟩)
      go_ret
      exact ⟨ret_bool HN.out.symm, HF.out⟩

/-- Where a value stands in a list: its first place, -1 if nowhere. -/
def idxL {α : Type} [DecidableEq α] (l : List α) (s : α) : Int := match l.findIdx? (fun x => decide (x = s)) with | some k => k | none => -1
theorem idxL_at {α : Type} [DecidableEq α] {l : List α} {s : α} {k : Nat} (h : ∀ j, j < k → l[j]? ≠ some s) (hk : l[k]? = some s) : idxL l s = k := by
  have hlt : k < l.length := by
    rcases Nat.lt_or_ge k l.length with h' | h'
    · exact h'
    · rw [List.getElem?_eq_none h'] at hk; cases hk
  have : l.findIdx? (fun x => decide (x = s)) = some k := by
    rw [List.findIdx?_eq_some_iff_getElem]
    refine ⟨hlt, ?_, ?_⟩
    · rw [List.getElem?_eq_getElem hlt] at hk; simpa using hk
    · intro j hj
      have := h j hj
      rw [List.getElem?_eq_getElem (by omega)] at this
      simpa using this
  unfold idxL; rw [this]
theorem idxL_none {α : Type} [DecidableEq α] {l : List α} {s : α} (h : ∀ j, j < l.length → l[j]? ≠ some s) : idxL l s = -1 := by
  have : l.findIdx? (fun x => decide (x = s)) = none := by
    rw [List.findIdx?_eq_none_iff]
    intro x hx
    obtain ⟨j, hj, rfl⟩ := List.getElem_of_mem hx
    have := h j hj
    rw [List.getElem?_eq_getElem hj] at this
    simpa using this
  unfold idxL; rw [this]
theorem idxL_range {α : Type} [DecidableEq α] (l : List α) (s : α) : -1 ≤ idxL l s ∧ idxL l s ≤ l.length := by
  unfold idxL
  split
  · next k h => rw [List.findIdx?_eq_some_iff_getElem] at h; obtain ⟨h, _⟩ := h; omega
  · omega
theorem idxL_mem {α : Type} [DecidableEq α] (l : List α) (s : α) : 0 ≤ idxL l s ↔ s ∈ l := by
  unfold idxL
  split
  · next k h =>
    rw [List.findIdx?_eq_some_iff_getElem] at h
    obtain ⟨h, h1, _⟩ := h
    simp at h1
    exact ⟨fun _ => h1 ▸ List.getElem_mem h, fun _ => by omega⟩
  · next h =>
    rw [List.findIdx?_eq_none_iff] at h
    exact ⟨fun x => by omega, fun hm => absurd (h s hm) (by simp)⟩
/-- A value at place k stands nowhere before k just if its first place is k. -/
theorem idxL_take {α : Type} [DecidableEq α] {l : List α} {s : α} {k : Nat} (hk : l[k]? = some s) : decide (0 ≤ idxL (l.take k) s) = !decide (idxL l s = k) := by
  by_cases h : s ∈ l.take k
  · have h1 := (idxL_mem _ _).2 h
    have h2 : idxL l s ≠ k := by
      intro he
      obtain ⟨j, hj, hx⟩ := List.getElem_of_mem h
      have hj' : j < k := by simp at hj; omega
      unfold idxL at he
      split at he
      · next q hq =>
        rw [List.findIdx?_eq_some_iff_getElem] at hq
        obtain ⟨hq1, _, hq3⟩ := hq
        have hqk : q = k := by omega
        subst hqk
        have := hq3 j hj'
        simp at hx this
        exact this hx
      · omega
    simp [h1, h2]
  · have h1 : ¬ 0 ≤ idxL (l.take k) s := fun x => h ((idxL_mem _ _).1 x)
    have h2 : idxL l s = k := idxL_at (fun j hj he => h (List.mem_of_getElem? (i := j) (by rw [List.getElem?_take_of_lt hj]; exact he))) hk
    simp [h1, h2]

theorem bytes_eq {x s : ByteArray} (h : x.data.toList = s.data.toList) : x = s := by
  obtain ⟨x⟩ := x; obtain ⟨s⟩ := s
  simp at h; simp [h]
theorem strne {x s : ByteArray} (h : x ≠ s) : (x.toList == s.toList) = false := by
  rw [beq_eq_false_iff_ne]
  intro he
  rw [ByteArray.toList_eq, ByteArray.toList_eq] at he
  exact h (bytes_eq he)
def Strs (w : World) (p : Option Addr) (l : List ByteArray) : Prop := Cells w p (l.map Value.string)
theorem Strs.keep {w w' : World} {p : Option Addr} {l : List ByteArray} (h : Strs w p l) (hb : Fresh w w') : Strs w' p l := Cells.keep h hb
theorem Strs.at {w : World} {p : Option Addr} {l : List ByteArray} (h : Strs w p l) {k : Nat} (hk : k < l.length) :
    ∃ b off s, p = some ⟨b, off, none⟩ ∧ l[k]? = some s ∧ w.cell? ⟨b, off + k, none⟩ = some (.string s) := by
  obtain ⟨b, off, rfl, hc⟩ := Cells.at h (k := k) (by simpa using hk)
  exact ⟨b, off, l[k], rfl, by simp [hk], hc k _ (by simp [hk])⟩
theorem Cells.take {w : World} {p : Option Addr} {cs : List Value} (h : Cells w p cs) (k : Nat) : Cells w p (cs.take k) := by
  rcases h with h | ⟨b, off, hp, hc⟩
  · exact Or.inl (by rw [h]; simp)
  · refine Or.inr ⟨b, off, hp, fun i v hv => hc i v ?_⟩
    rw [List.getElem?_take] at hv
    split at hv
    · exact hv
    · cases hv
theorem Strs.take {w : World} {p : Option Addr} {l : List ByteArray} (h : Strs w p l) (k : Nat) : Strs w p (l.take k) := by
  unfold Strs; rw [List.map_take]; exact Cells.take h k
theorem notyet {α : Type} {l : List α} {s x : α} {k : Nat} (h : ∀ j, j < k → l[j]? ≠ some s) (hx : l[k]? = some x) (hne : x ≠ s) : ∀ j, j < k + 1 → l[j]? ≠ some s := by
  intro j hj
  rcases Nat.lt_or_ge j k with h' | h'
  · exact h j h'
  · have : j = k := by omega
    subst this; rw [hx]; simpa using hne

set_option maxHeartbeats 1000000 in
theorem l2Find_any (p : Option Addr) (cap : Nat) (l : List ByteArray) (s : ByteArray) (w : World) (hI : Strs w p l) (hn : l.length ≤ 9223372036854775806) :
    Calls Try.prog 158 #[.slice p l.length cap, .string s] w fun e w' => e = .returned (.int .i64 (idxL l s)) ∧ w = w' := by
  go_enter Try.func158, Try.ntmps158
  go_wp2
  go_loop [5] (fun i => ∃ k : Nat, k ≤ l.length ∧ i = .int .i64 k ∧ ∀ j, j < k → l[j]? ≠ some s) (fun i => l.length - (intOf i).toNat)
  case atStart => exact ⟨0, Nat.zero_le _, rfl, fun j hj => by omega⟩
  case round =>
    obtain ⟨k, hk, rfl, hall⟩ := hrel
    have HA := Lib.hid hall
    clear hall
    by_cases hlt : k < l.length
    · obtain ⟨b, off, x, rfl, hx, hc⟩ := hI.at hlt
      have hltz : (k : Int) < (l.length : Int) := by omega
      by_cases he : x = s
      · have HE := Lib.hid (idxL_at HA.out (by rw [hx, he]))
        have hd : decide (x = s) = true := decide_eq_true he
        have hd' : (x.toList == s.toList) = true := by rw [he]; simp
        clear hx
        go_wp2
        go_ret
        exact ⟨ret_int HE.out.symm, rfl⟩
      · have HE := Lib.hid (notyet HA.out hx he)
        have hd : decide (x = s) = false := decide_eq_false he
        have hd' : (x.toList == s.toList) = false := strne he
        clear hx
        go_wp2
        go_round
        case rel => exact ⟨k + 1, by omega, by go_num, HE.out⟩
        case measure => simp [intOf]; omega
    · have hkn : k = l.length := by omega
      have HE := Lib.hid (idxL_none (l := l) (s := s) (by rw [← hkn]; exact HA.out))
      have hltz : ¬ (k : Int) < (l.length : Int) := by omega
      go_wp2
      go_ret
      exact ⟨ret_int HE.out.symm, rfl⟩

set_option maxHeartbeats 1000000 in
theorem index_any (p : Option Addr) (cap : Nat) (l : List ByteArray) (s : ByteArray) (w : World) (hI : Strs w p l) (hn : l.length ≤ 9223372036854775806) :
    Calls Try.prog 177 #[.slice p l.length cap, .string s] w fun e w' => e = .returned (.int .i64 (idxL l s)) ∧ w = w' := by
  go_enter Try.func177, Try.ntmps177
  go_wp2
  go_loop [5, 8] (fun _ i => ∃ k : Nat, k ≤ l.length ∧ i = .int .i64 k ∧ ∀ j, j < k → l[j]? ≠ some s) (fun _ i => l.length - (intOf i).toNat)
  case atStart => exact ⟨0, Nat.zero_le _, rfl, fun j hj => by omega⟩
  case round =>
    obtain ⟨k, hk, rfl, hall⟩ := hrel
    have HA := Lib.hid hall
    clear hall
    by_cases hlt : k < l.length
    · obtain ⟨b, off, x, rfl, hx, hc⟩ := hI.at hlt
      have hltz : (k : Int) < (l.length : Int) := by omega
      by_cases he : x = s
      · have HE := Lib.hid (idxL_at HA.out (by rw [hx, he]))
        have hd : decide (s = x) = true := decide_eq_true he.symm
        have hd' : (s.toList == x.toList) = true := by rw [he]; simp
        clear hx
        go_wp2
        go_ret
        exact ⟨ret_int HE.out.symm, rfl⟩
      · have HE := Lib.hid (notyet HA.out hx he)
        have hd : decide (s = x) = false := decide_eq_false (fun h => he h.symm)
        have hd' : (s.toList == x.toList) = false := strne (fun h => he h.symm)
        clear hx
        go_wp2
        go_round
        case rel => exact ⟨k + 1, by omega, by go_num, HE.out⟩
        case measure => simp [intOf]; omega
    · have hkn : k = l.length := by omega
      have HE := Lib.hid (idxL_none (l := l) (s := s) (by rw [← hkn]; exact HA.out))
      have hltz : ¬ (k : Int) < (l.length : Int) := by omega
      go_wp2
      go_ret
      exact ⟨ret_int HE.out.symm, rfl⟩

set_option maxHeartbeats 400000 in
theorem contains_any (p : Option Addr) (cap : Nat) (l : List ByteArray) (s : ByteArray) (w : World) (hI : Strs w p l) (hn : l.length ≤ 9223372036854775806) :
    Calls Try.prog 139 #[.slice p l.length cap, .string s] w fun e w' => e = .returned (.bool (decide (0 ≤ idxL l s))) ∧ w = w' := by
  have HI := Lib.hid hI
  go_enter Try.func139, Try.ntmps139
  go_wp2_with (go_at_call 177; refine (index_any _ _ _ _ _ HI.out hn).mono ?_; rintro e w' ⟨rfl, rfl⟩)
  go_ret
  exact ⟨rfl, rfl⟩

/-- A fiber: two nodes, a length, a risk. -/
structure Fib where
  a : Int
  b : Int
  len : Int
  risk : Int
abbrev fibC (f : Fib) : List Value := [iv f.a, iv f.b, iv f.len, iv f.risk]
abbrev fibV (f : Fib) : Value := .agg #[iv f.a, iv f.b, iv f.len, iv f.risk]
def fibB (n : Int) (f : Fib) : Bool := decide (0 ≤ f.a ∧ f.a < f.b ∧ f.b < n) && inB f.len 1 5000 && inB f.risk 0 9
/-- The second does not come before the first. -/
def fibAfter (f g : Fib) : Bool :=
  decide (g.a < f.a ∨ (f.a = g.a ∧ (g.b < f.b ∨ (f.b = g.b ∧ (g.len < f.len ∨ (f.len = g.len ∧ g.risk < f.risk))))))
def cmpI (x y : Int) : Int := if x < y then -1 else if y < x then 1 else 0
def cmpF (f g : Fib) : Int := if cmpI f.a g.a ≠ 0 then cmpI f.a g.a else if cmpI f.b g.b ≠ 0 then cmpI f.b g.b else if cmpI f.len g.len ≠ 0 then cmpI f.len g.len else cmpI f.risk g.risk
def before (f g : Fib) : Int := if f.a ≠ g.a then f.a - g.a else if f.b ≠ g.b then f.b - g.b else if f.len ≠ g.len then f.len - g.len else f.risk - g.risk
theorem before_pos (f g : Fib) : decide (0 < before f g) = fibAfter f g := by
  unfold before fibAfter
  apply decide_eq_decide.2
  repeat' split
  all_goals omega
theorem cmpF_pos (f g : Fib) : decide (0 < cmpF f g) = fibAfter f g := by
  unfold cmpF cmpI fibAfter
  apply decide_eq_decide.2
  repeat' split
  all_goals omega

set_option maxHeartbeats 400000 in
theorem isNaN_any (x : Int) (w : World) : Calls Try.prog 187 #[.int .i64 x] w fun e w' => e = .returned (.bool false) ∧ w = w' := by
  go_enter Try.func187, Try.ntmps187
  go_wp2
  go_ret
  exact ⟨by simp, rfl⟩

set_option maxHeartbeats 1000000 in
theorem compare_any (x y : Int) (w : World) : Calls Try.prog 179 #[.int .i64 x, .int .i64 y] w fun e w' => e = .returned (.int .i64 (cmpI x y)) ∧ w' = w := by
  by_cases h1 : x < y
  · have HE : Hid (cmpI x y = -1) := by show cmpI x y = -1; simp [cmpI, h1]
    go_enter Try.func179, Try.ntmps179
    go_wp2_with (go_at_call 187; refine (isNaN_any _ _).mono ?_; rintro e w' ⟨rfl, rfl⟩)
    go_ret
    exact ⟨ret_int HE.out.symm, rfl⟩
  · by_cases h2 : y < x
    · have HE : Hid (cmpI x y = 1) := by show cmpI x y = 1; simp [cmpI, h1, h2]
      go_enter Try.func179, Try.ntmps179
      go_wp2_with (go_at_call 187; refine (isNaN_any _ _).mono ?_; rintro e w' ⟨rfl, rfl⟩)
      go_ret
      exact ⟨ret_int HE.out.symm, rfl⟩
    · have HE : Hid (cmpI x y = 0) := by show cmpI x y = 0; simp [cmpI, h1, h2]
      go_enter Try.func179, Try.ntmps179
      go_wp2_with (go_at_call 187; refine (isNaN_any _ _).mono ?_; rintro e w' ⟨rfl, rfl⟩)
      go_ret
      exact ⟨ret_int HE.out.symm, rfl⟩

/-- The first that is not nought. -/
def orL (l : List Int) : Int := (l.find? (fun x => !decide (x = 0))).getD 0
set_option maxHeartbeats 1000000 in
theorem or_any (p : Option Addr) (cap : Nat) (l : List Int) (w : World) (hI : Ints w p l) (hn : l.length ≤ 9223372036854775806) :
    Calls Try.prog 178 #[.slice p l.length cap] w fun e w' => e = .returned (.int .i64 (orL l)) ∧ w = w' := by
  go_enter Try.func178, Try.ntmps178
  go_wp2
  go_loop [5, 8] (fun _ i => ∃ k : Nat, k ≤ l.length ∧ i = .int .i64 k ∧ orL l = orL (l.drop k)) (fun _ i => l.length - (intOf i).toNat)
  case atStart => exact ⟨0, Nat.zero_le _, rfl, by simp⟩
  case round =>
    obtain ⟨k, hk, rfl, hall⟩ := hrel
    have HA := Lib.hid hall
    clear hall
    by_cases hlt : k < l.length
    · obtain ⟨b, off, x, rfl, hx, hc⟩ := hI.at hlt
      have hltz : (k : Int) < (l.length : Int) := by omega
      have hdr : l.drop k = x :: l.drop (k + 1) := by
        rw [List.getElem?_eq_getElem hlt] at hx
        simp only [Option.some.injEq] at hx
        rw [← hx, List.drop_eq_getElem_cons hlt]
      by_cases he : x = 0
      · have HE : Hid (orL l = orL (l.drop (k + 1))) := by
          show orL l = orL (l.drop (k + 1))
          rw [HA.out, hdr]; simp [orL, he]
        have hd' : (x == 0) = true := by simp [he]
        clear hx hdr
        subst he
        go_wp2
        go_round
        case rel => exact ⟨k + 1, by omega, by go_num, HE.out⟩
        case measure => simp [intOf]; omega
      · have HE : Hid (orL l = x) := by
          show orL l = x
          rw [HA.out, hdr]; simp [orL, he]
        have hd' : (x == 0) = false := by simp [he]
        clear hx hdr
        go_wp2
        go_ret
        exact ⟨ret_int HE.out.symm, rfl⟩
    · have hkn : k = l.length := by omega
      have HE : Hid (orL l = 0) := by
        show orL l = 0
        rw [HA.out, hkn, List.drop_length]; rfl
      have hltz : ¬ (k : Int) < (l.length : Int) := by omega
      go_wp2
      go_ret
      exact ⟨ret_int HE.out.symm, rfl⟩
theorem orL_four (f g : Fib) : orL [cmpI f.a g.a, cmpI f.b g.b, cmpI f.len g.len, cmpI f.risk g.risk] = cmpF f g := by
  unfold orL cmpF
  by_cases h1 : cmpI f.a g.a = 0
  · by_cases h2 : cmpI f.b g.b = 0
    · by_cases h3 : cmpI f.len g.len = 0
      · by_cases h4 : cmpI f.risk g.risk = 0 <;> simp [h1, h2, h3, h4]
      · simp [h1, h2, h3]
    · simp [h1, h2]
  · simp [h1]

set_option maxHeartbeats 1000000 in
set_option maxRecDepth 100000 in
theorem compareFibers_any (f g : Fib) (w : World) : Calls Try.prog 140 #[fibV f, fibV g] w fun e w' => e = .returned (.int .i64 (cmpF f g)) ∧ Fresh w w' := by
  obtain ⟨a, b, c, d⟩ := f
  obtain ⟨a', b', c', d'⟩ := g
  have HO := Lib.hid (orL_four ⟨a, b, c, d⟩ ⟨a', b', c', d'⟩)
  go_enter Try.func140, Try.ntmps140
  go_wp2
  obtain ⟨w2, hw2⟩ : ∃ w2, w2 = (w.alloc (.cells #[iv a, iv b, iv c, iv d] 170)).alloc (.cells #[iv a', iv b', iv c', iv d'] 170) := ⟨_, rfl⟩
  rw [← hw2]
  have hf : Fresh w w2 := by rw [hw2]; exact fnew (fnew (frefl _) _) _
  have r1 : RowAt w2 w.heap.size 170 [iv a, iv b, iv c, iv d] := by rw [hw2]; exact (RowAt.new w _ [iv a, iv b, iv c, iv d]).alloc _
  have r2 : RowAt w2 (w.heap.size + 1) 170 [iv a', iv b', iv c', iv d'] := by
    rw [hw2]
    have := RowAt.new (w.alloc (.cells #[iv a, iv b, iv c, iv d] 170)) 170 [iv a', iv b', iv c', iv d']
    simpa using this
  have c0 := r1.cell (i := 0) (v := iv a) rfl
  have c1 := r1.cell (i := 1) (v := iv b) rfl
  have c2 := r1.cell (i := 2) (v := iv c) rfl
  have c3 := r1.cell (i := 3) (v := iv d) rfl
  have e0 := r2.cell (i := 0) (v := iv a') rfl
  have e1 := r2.cell (i := 1) (v := iv b') rfl
  have e2 := r2.cell (i := 2) (v := iv c') rfl
  have e3 := r2.cell (i := 3) (v := iv d') rfl
  have HF := Lib.hid hf
  clear r1 r2 hf hw2
  refine wp_region_still_tail 20 (by kernel_rfl) (by kernel_rfl) ?_
  simp only [List.take_succ_cons, List.take_zero, List.drop_succ_cons, List.drop_zero]
  repeat still_step
  still_call (compare_any _ _ _)
  repeat still_step
  still_call (compare_any _ _ _)
  repeat still_step
  still_call (compare_any _ _ _)
  repeat still_step
  still_call (compare_any _ _ _)
  refine wpStill_nil ?_
  change wpList _ _ _ _ _ w2.drew
  have HF2 : Hid (Fresh w w2.drew) := fdrew HF.out
  clear c0 c1 c2 c3 e0 e1 e2 e3
  generalize w2.drew = w3 at HF2
  clear HF
  go_wp2_with (go_at_call 178; refine (or_any _ _ [cmpI a a', cmpI b b', cmpI c c', cmpI d d'] _ (by first | exact (RowAt.new w3 _ [iv (cmpI a a'), iv (cmpI b b'), iv (cmpI c c'), iv (cmpI d d')]).cells | (rw [Nat.sub_self]; exact (RowAt.new w3 _ [iv (cmpI a a'), iv (cmpI b b'), iv (cmpI c c'), iv (cmpI d d')]).cells)) (by simp)).mono ?_; rintro e w' ⟨rfl, rfl⟩)
  go_ret
  exact ⟨ret_int HO.out, fnew HF2.out _⟩

theorem fibB_eq (n : Int) (f : Fib) : fibB n f = (inB f.a 0 (n - 1) && inB f.b (f.a + 1) (n - 1) && inB f.len 1 5000 && inB f.risk 0 9) := by
  unfold fibB
  congr 2
  unfold inB
  rw [← Bool.decide_and]
  apply decide_eq_decide.2
  omega

set_option maxHeartbeats 2000000 in
theorem l2Fiber_any (f : Fib) (n : Int) (w : World) (hn0 : 0 ≤ n) (hn : n ≤ 1048576) : Calls Try.prog 159 #[fibV f, .int .i64 n] w fun e w' => e = .returned (.bool (fibB n f)) ∧ Fresh w w' := by
  obtain ⟨a, b, c, d⟩ := f
  cases h1 : inB a 0 (n - 1)
  · have HE : Hid (fibB n ⟨a, b, c, d⟩ = false) := by show fibB n ⟨a, b, c, d⟩ = false; rw [fibB_eq]; simp [*]
    go_enter Try.func159, Try.ntmps159
    go_wp2_with (go_at_call 143; refine (l1In_any _ _ _ _).mono ?_; rintro e w' ⟨rfl, rfl⟩)
    go_ret
    exact ⟨ret_bool HE.out.symm, fnew (frefl _) _⟩
  · obtain ⟨g1, g2⟩ := inB_iff.1 h1
    cases h2 : inB b (a + 1) (n - 1)
    · have HE : Hid (fibB n ⟨a, b, c, d⟩ = false) := by show fibB n ⟨a, b, c, d⟩ = false; rw [fibB_eq]; simp [*]
      go_enter Try.func159, Try.ntmps159
      go_wp2_with (go_at_call 143; refine (l1In_any _ _ _ _).mono ?_; rintro e w' ⟨rfl, rfl⟩)
      go_ret
      exact ⟨ret_bool HE.out.symm, fnew (frefl _) _⟩
    · cases h3 : inB c 1 5000
      · have HE : Hid (fibB n ⟨a, b, c, d⟩ = false) := by show fibB n ⟨a, b, c, d⟩ = false; rw [fibB_eq]; simp [*]
        go_enter Try.func159, Try.ntmps159
        go_wp2_with (go_at_call 143; refine (l1In_any _ _ _ _).mono ?_; rintro e w' ⟨rfl, rfl⟩)
        go_ret
        exact ⟨ret_bool HE.out.symm, fnew (frefl _) _⟩
      · cases h4 : inB d 0 9
        · have HE : Hid (fibB n ⟨a, b, c, d⟩ = false) := by show fibB n ⟨a, b, c, d⟩ = false; rw [fibB_eq]; simp [*]
          go_enter Try.func159, Try.ntmps159
          go_wp2_with (go_at_call 143; refine (l1In_any _ _ _ _).mono ?_; rintro e w' ⟨rfl, rfl⟩)
          go_ret
          exact ⟨ret_bool HE.out.symm, fnew (frefl _) _⟩
        · have HE : Hid (fibB n ⟨a, b, c, d⟩ = true) := by show fibB n ⟨a, b, c, d⟩ = true; rw [fibB_eq]; simp [*]
          go_enter Try.func159, Try.ntmps159
          go_wp2_with (go_at_call 143; refine (l1In_any _ _ _ _).mono ?_; rintro e w' ⟨rfl, rfl⟩)
          go_ret
          exact ⟨ret_bool HE.out.symm, fnew (frefl _) _⟩

def Ab (x : Int) : Prop := -2000000 ≤ x ∧ x ≤ 2000000
set_option maxHeartbeats 2000000 in
theorem l2Before_any (f g : Fib) (w : World) (h1 : Ab f.a) (h2 : Ab f.b) (h3 : Ab f.len) (h4 : Ab f.risk) (h1' : Ab g.a) (h2' : Ab g.b) (h3' : Ab g.len) (h4' : Ab g.risk) :
    Calls Try.prog 160 #[fibV f, fibV g] w fun e w' => e = .returned (.int .i64 (before f g)) ∧ Fresh w w' := by
  obtain ⟨a, b, c, d⟩ := f
  obtain ⟨a', b', c', d'⟩ := g
  unfold Ab at h1 h2 h3 h4 h1' h2' h3' h4'
  simp only at h1 h2 h3 h4 h1' h2' h3' h4'
  by_cases k1 : a = a'
  · subst k1
    by_cases k2 : b = b'
    · subst k2
      by_cases k3 : c = c'
      · subst k3
        have HE : Hid (before ⟨a, b, c, d⟩ ⟨a, b, c, d'⟩ = d - d') := by show before ⟨a, b, c, d⟩ ⟨a, b, c, d'⟩ = d - d'; simp [before, *]
        go_enter Try.func160, Try.ntmps160
        go_wp2
        go_ret
        exact ⟨ret_int HE.out.symm, fnew (fnew (frefl _) _) _⟩
      · have kb : (c == c') = false := by simp [k3]
        have HE : Hid (before ⟨a, b, c, d⟩ ⟨a, b, c', d'⟩ = c - c') := by show before ⟨a, b, c, d⟩ ⟨a, b, c', d'⟩ = c - c'; simp [before, *]
        go_enter Try.func160, Try.ntmps160
        go_wp2
        go_ret
        exact ⟨ret_int HE.out.symm, fnew (fnew (frefl _) _) _⟩
    · have kb : (b == b') = false := by simp [k2]
      have HE : Hid (before ⟨a, b, c, d⟩ ⟨a, b', c', d'⟩ = b - b') := by show before ⟨a, b, c, d⟩ ⟨a, b', c', d'⟩ = b - b'; simp [before, *]
      go_enter Try.func160, Try.ntmps160
      go_wp2
      go_ret
      exact ⟨ret_int HE.out.symm, fnew (fnew (frefl _) _) _⟩
  · have kb : (a == a') = false := by simp [k1]
    have HE : Hid (before ⟨a, b, c, d⟩ ⟨a', b', c', d'⟩ = a - a') := by show before ⟨a, b, c, d⟩ ⟨a', b', c', d'⟩ = a - a'; simp [before, *]
    go_enter Try.func160, Try.ntmps160
    go_wp2
    go_ret
    exact ⟨ret_int HE.out.symm, fnew (fnew (frefl _) _) _⟩
end Go.Proofs.Ytjlhjkdmpngkbaa
