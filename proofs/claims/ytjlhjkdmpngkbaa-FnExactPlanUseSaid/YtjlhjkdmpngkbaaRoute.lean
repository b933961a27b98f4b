/- Contracts: routes walked, both sides. -/
import Derived.Test.YtjlhjkdmpngkbaaHas
import Derived.Test.YtjlhjkdmpngkbaaNet2
import Derived.Test.YtjlhjkdmpngkbaaInts
import Derived.Deep.RegionHeld3
namespace Go.Proofs.Ytjlhjkdmpngkbaa
open Go.RowKit Go.PlainAid

/-- The other end of a fiber, -1 if the node is none of its ends. -/
def other (f : Fib) (n : Int) : Int := if n = f.a then f.b else if n = f.b then f.a else -1
def lastI (l : List Int) : Int := (l.getLast?).getD 0
/-- One fiber more. -/
def stepR (F : List Fib) (out : List Int) (i : Int) : Option (List Int) :=
  if inB i 0 ((F.length : Int) - 1) then
    match F[i.toNat]? with
    | some f => if other f (lastI out) < 0 ∨ other f (lastI out) ∈ out then none else some (out ++ [other f (lastI out)])
    | none => none
  else none
def walkR (F : List Fib) (s : Int) (l : List Int) : Option (List Int) := l.foldl (fun acc i => acc.bind fun out => stepR F out i) (some [s])
theorem walk_none (F : List Fib) (l : List Int) : l.foldl (fun acc i => acc.bind fun out => stepR F out i) none = none := by
  induction l with
  | nil => rfl
  | cons a l ih => exact ih
theorem walk_step {F : List Fib} {s : Int} {l : List Int} {k : Nat} {out : List Int} {i : Int} (h : walkR F s (l.take k) = some out) (hi : l[k]? = some i) : walkR F s (l.take (k + 1)) = stepR F out i := by
  unfold walkR at *
  rw [List.take_add_one, hi, List.foldl_append, h]; rfl
theorem walk_dead {F : List Fib} {s : Int} {l : List Int} {k : Nat} (h : walkR F s (l.take k) = none) : walkR F s l = none := by
  unfold walkR at *
  rw [← List.take_append_drop k l, List.foldl_append, h]; exact walk_none F _
theorem stepR_out {F : List Fib} {out : List Int} {i : Int} (h : inB i 0 ((F.length : Int) - 1) = false) : stepR F out i = none := by unfold stepR; simp [h]
theorem stepR_bad {F : List Fib} {out : List Int} {i : Int} {f : Fib} (h : inB i 0 ((F.length : Int) - 1) = true) (hf : F[i.toNat]? = some f) (hb : other f (lastI out) < 0 ∨ other f (lastI out) ∈ out) : stepR F out i = none := by
  unfold stepR; simp only [h, if_true, hf]; rw [if_pos hb]
theorem stepR_good {F : List Fib} {out : List Int} {i : Int} {f : Fib} (h : inB i 0 ((F.length : Int) - 1) = true) (hf : F[i.toNat]? = some f) (hb : ¬ (other f (lastI out) < 0 ∨ other f (lastI out) ∈ out)) : stepR F out i = some (out ++ [other f (lastI out)]) := by
  unfold stepR; simp only [h, if_true, hf]; rw [if_neg hb]
theorem lastI_app (l : List Int) (x : Int) : lastI (l ++ [x]) = x := by unfold lastI; simp
theorem walk_len {F : List Fib} {s : Int} {l : List Int} : ∀ {k : Nat} {out : List Int}, k ≤ l.length → walkR F s (l.take k) = some out → out.length = k + 1 := by
  intro k
  induction k with
  | zero => intro out _ h; simp [walkR] at h; subst h; rfl
  | succ k ih =>
    intro out hk h
    cases ho : walkR F s (l.take k) with
    | none =>
      have : walkR F s (l.take (k + 1)) = none := by
        have := walk_dead (F := F) (s := s) (l := l.take (k + 1)) (k := k) (by rw [List.take_take, Nat.min_eq_left (by omega)]; exact ho)
        exact this
      rw [this] at h; cases h
    | some o =>
      have hlo := ih (by omega) ho
      have hx : l[k]? = some l[k] := List.getElem?_eq_getElem (by omega)
      rw [walk_step ho hx] at h
      unfold stepR at h
      split at h
      · split at h
        · split at h
          · cases h
          · cases h; simp [hlo]
        · cases h
      · cases h
/-- The nodes of a route; none if it is not valid in a valid network. -/
def visR (N : Nat) (F : List Fib) (s : Int) (l : List Int) : Option (List Int) := if inB s 0 ((N : Int) - 1) = true ∧ l.length ≠ 0 then walkR F s l else none
theorem visR_start {N : Nat} {F : List Fib} {s : Int} {l : List Int} (h : inB s 0 ((N : Int) - 1) = false) : visR N F s l = none := by unfold visR; rw [if_neg]; simp [h]
theorem visR_empty {N : Nat} {F : List Fib} {s : Int} {l : List Int} (h : l.length = 0) : visR N F s l = none := by unfold visR; rw [if_neg]; simp [h]
theorem visR_go {N : Nat} {F : List Fib} {s : Int} {l : List Int} (h : inB s 0 ((N : Int) - 1) = true) (h2 : l.length ≠ 0) : visR N F s l = walkR F s l := by unfold visR; rw [if_pos ⟨h, h2⟩]
/-- The call hands back a list of ints (of its own where there is one) and whether there is one. -/
def OutWalk (w : World) (R : Option (List Int)) (e : Ending) (w' : World) : Prop := ∃ p cap, ∃ xs : List Int, e = .returned (.tuple #[.slice p xs.length cap, .bool R.isSome]) ∧ Fresh w w' ∧ ∀ out, R = some out → xs = out ∧ Own w' w.heap.size 3 p (out.map iv)

set_option maxHeartbeats 1000000 in
theorem otherEnd_any (x y z u n : Int) (w : World) : Calls Try.prog 145 #[.agg #[.int .i64 x, .int .i64 y, .int .i64 z, .int .i64 u], .int .i64 n] w fun e w' => e = .returned (.int .i64 (other ⟨x, y, z, u⟩ n)) ∧ Fresh w w' := by
  by_cases h1 : n = x
  · have HE : Hid (other ⟨x, y, z, u⟩ n = y) := by show other ⟨x, y, z, u⟩ n = y; simp [other, h1]
    subst h1
    go_enter Try.func145, Try.ntmps145
    go_wp2
    go_ret
    exact ⟨ret_int HE.out.symm, fnew (frefl _) _⟩
  · have k1 : (n == x) = false := by simp [h1]
    by_cases h2 : n = y
    · have HE : Hid (other ⟨x, y, z, u⟩ n = x) := by show other ⟨x, y, z, u⟩ n = x; simp [other, h1, h2]
      subst h2
      go_enter Try.func145, Try.ntmps145
      go_wp2
      go_ret
      exact ⟨ret_int HE.out.symm, fnew (frefl _) _⟩
    · have k2 : (n == y) = false := by simp [h2]
      have HE : Hid (other ⟨x, y, z, u⟩ n = -1) := by show other ⟨x, y, z, u⟩ n = -1; simp [other, h1, h2]
      go_enter Try.func145, Try.ntmps145
      go_wp2
      go_ret
      exact ⟨ret_int HE.out.symm, fnew (frefl _) _⟩

set_option maxHeartbeats 1000000 in
theorem l2Other_any (q p : Option Addr) (N c d : Nat) (F : List Fib) (i : Nat) (x y z u n : Int) (w : World) (hF : Fibs w p F) (hi : F[i]? = some ⟨x, y, z, u⟩) (hd : F.length ≤ 1048576) :
    Calls Try.prog 186 #[.agg #[.slice q N c, .slice p F.length d], .int .i64 i, .int .i64 n] w fun e w' => e = .returned (.int .i64 (other ⟨x, y, z, u⟩ n)) ∧ Fresh w w' := by
  have hlt : i < F.length := by
    rcases Nat.lt_or_ge i F.length with h' | h'
    · exact h'
    · rw [List.getElem?_eq_none h'] at hi; cases hi
  have hltz : (i : Int) < (F.length : Int) := by omega
  have hbx := fnew (frefl w) (.cells #[.slice q N c, .slice p F.length d] 32)
  obtain ⟨b, off, x', y', z', u', rfl, hx, hc0, hc1, hc2, hc3⟩ := hF.at hlt
  rw [hi] at hx
  simp only [Option.some.injEq, Fib.mk.injEq] at hx
  obtain ⟨rfl, rfl, rfl, rfl⟩ := hx
  have e0 := fkeep hbx hc0
  have e1 := fkeep hbx hc1
  have e2 := fkeep hbx hc2
  have e3 := fkeep hbx hc3
  clear hi hF hbx
  by_cases h1 : n = x
  · have HE : Hid (other ⟨x, y, z, u⟩ n = y) := by show other ⟨x, y, z, u⟩ n = y; simp [other, h1]
    subst h1
    go_enter Try.func186, Try.ntmps186
    go_wp2
    go_ret
    exact ⟨ret_int HE.out.symm, fnew (fnew (frefl _) _) _⟩
  · have k1 : (n == x) = false := by simp [h1]
    by_cases h2 : n = y
    · have HE : Hid (other ⟨x, y, z, u⟩ n = x) := by show other ⟨x, y, z, u⟩ n = x; simp [other, h1, h2]
      subst h2
      go_enter Try.func186, Try.ntmps186
      go_wp2
      go_ret
      exact ⟨ret_int HE.out.symm, fnew (fnew (frefl _) _) _⟩
    · have k2 : (n == y) = false := by simp [h2]
      have HE : Hid (other ⟨x, y, z, u⟩ n = -1) := by show other ⟨x, y, z, u⟩ n = -1; simp [other, h1, h2]
      go_enter Try.func186, Try.ntmps186
      go_wp2
      go_ret
      exact ⟨ret_int HE.out.symm, fnew (fnew (frefl _) _) _⟩
end Go.Proofs.Ytjlhjkdmpngkbaa
