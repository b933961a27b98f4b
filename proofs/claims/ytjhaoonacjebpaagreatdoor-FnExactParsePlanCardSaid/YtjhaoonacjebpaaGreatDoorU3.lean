/- Texts of mine laid together (Dem, Route, Route2, Route3, Loc, Req, Req2, Req3, Req4, OpenR, Open2, KReq, Open3, KRt, Mr, Com): contracts of functions and plain laws. -/
import Derived.Test.YtjhaoonacjebpaaGreatDoorU2
import Derived.Test.YtjhaoonacjebpaaGreatDoorU1
import Derived.Deep.RegionHeld3
import Derived.StillTailTactics
import Derived.Deep.Strs
import Derived.Test.YtjhaoonacjebpaaGreatDoorShelf
import Derived.Sort.OwnSortedInts
import Derived.Lib.OwnBridge
/- Contracts: valid demands, on both sides. -/
namespace Go.Proofs.YtjhaoonacjebpaaGreatDoor
open Go.RowKit Go.PlainAid

/-- The first place at which a test holds, -1 if nowhere. -/
def idxP {α : Type} (l : List α) (f : α → Bool) : Int := match l.findIdx? f with | some k => k | none => -1
theorem idxP_at {α : Type} {l : List α} {f : α → Bool} {k : Nat} {x : α} (h : ∀ j y, j < k → l[j]? = some y → f y = false) (hx : l[k]? = some x) (hf : f x = true) : idxP l f = k := by
  have hlt : k < l.length := by
    rcases Nat.lt_or_ge k l.length with h' | h'
    · exact h'
    · rw [List.getElem?_eq_none h'] at hx; cases hx
  have : l.findIdx? f = some k := by
    rw [List.findIdx?_eq_some_iff_getElem]
    refine ⟨hlt, ?_, ?_⟩
    · rw [List.getElem?_eq_getElem hlt] at hx; simp at hx; rw [hx]; exact hf
    · intro j hj
      have := h j l[j] hj (List.getElem?_eq_getElem (by omega))
      simp [this]
  unfold idxP; rw [this]
theorem idxP_none {α : Type} {l : List α} {f : α → Bool} (h : ∀ j y, j < l.length → l[j]? = some y → f y = false) : idxP l f = -1 := by
  have : l.findIdx? f = none := by
    rw [List.findIdx?_eq_none_iff]
    intro x hx
    obtain ⟨j, hj, rfl⟩ := List.getElem_of_mem hx
    exact h j _ hj (List.getElem?_eq_getElem hj)
  unfold idxP; rw [this]
theorem idxP_any {α : Type} (l : List α) (f : α → Bool) : decide (0 ≤ idxP l f) = l.any f := by
  unfold idxP
  split
  · next k h =>
    rw [List.findIdx?_eq_some_iff_getElem] at h
    obtain ⟨hk, h1, _⟩ := h
    have : l.any f = true := List.any_eq_true.2 ⟨l[k], List.getElem_mem hk, h1⟩
    rw [this]; simp
  · next h =>
    rw [List.findIdx?_eq_none_iff] at h
    have : l.any f = false := by rw [List.any_eq_false]; intro x hx; simp [h x hx]
    rw [this]; rfl
theorem notP {α : Type} {l : List α} {f : α → Bool} {x : α} {k : Nat} (h : ∀ j y, j < k → l[j]? = some y → f y = false) (hx : l[k]? = some x) (hf : f x = false) : ∀ j y, j < k + 1 → l[j]? = some y → f y = false := by
  intro j y hj hy
  rcases Nat.lt_or_ge j k with h' | h'
  · exact h j y h' hy
  · have : j = k := by omega
    subst this; rw [hx] at hy; cases hy; exact hf

/-- A demand: the numbers of two nodes, a rate, a class. -/
def demB (k : Nat) (d : Fib) : Bool := inB d.a 0 ((k : Int) - 1) && inB d.b 0 ((k : Int) - 1) && !(d.a == d.b) && inB d.len 1 1000 && inB d.risk 0 2
def demsB (n : Net) (l : List Fib) : Bool := decide (l.length ≤ 12) && netB n && l.all (demB n.nodes.length)
theorem demsB_bad {n : Net} {l : List Fib} {k : Nat} {d : Fib} (hx : l[k]? = some d) (h : demB n.nodes.length d = false) : demsB n l = false := by
  unfold demsB; rw [all_false hx h, Bool.and_false]
theorem demsB_long {n : Net} {l : List Fib} (h : ¬ l.length ≤ 12) : demsB n l = false := by unfold demsB; rw [decide_eq_false h]; rfl
theorem demsB_end {n : Net} {l : List Fib} (h : l.length ≤ 12) (ha : l.all (demB n.nodes.length) = true) : demsB n l = netB n := by unfold demsB; rw [decide_eq_true h, ha]; simp

theorem NetIn.in_box {w : World} {v : Value} {n : Net} (h : NetIn w v n) {w1 : World} {t : TypeId} (hf : Fresh (w.alloc (.cells v.cells t)) w1) :
    ∃ a b, v = .agg #[a, b] ∧ w1.cell? ⟨w.heap.size, 0, none⟩ = some a ∧ w1.cell? ⟨w.heap.size, 1, none⟩ = some b := by
  obtain ⟨q, c, p, d, rfl, _⟩ := h
  exact ⟨_, _, rfl, box hf 0 rfl, box hf 1 rfl⟩

theorem any_not {α : Type} (l : List α) (f : α → Bool) : (!l.any fun x => !f x) = l.all f := by
  induction l with
  | nil => rfl
  | cons a l ih => simp [List.any_cons, List.all_cons, ← ih]

end Go.Proofs.YtjhaoonacjebpaaGreatDoor

/- Contracts: routes walked, both sides. -/
namespace Go.Proofs.YtjhaoonacjebpaaGreatDoor
open Go.RowKit Go.PlainAid

/-- The other end of a fiber, -1 if the node is none of its ends. -/
def other (f : Fib) (n : Int) : Int := if n = f.a then f.b else if n = f.b then f.a else -1
def lastI (l : List Int) : Int := (l.getLast?).getD 0
/-- One fiber more. -/
def stepR (F : List Fib) (out : List Int) (i : Int) : Option (List Int) :=
  if inB i 0 ((F.length : Int) - 1) then
    match F[i.toNat]? with
    | some f => if other f (lastI out) < 0 ∨ other f (lastI out) ∈ out then none else some (out ++ [other f (lastI out)])
    | none => none
  else none
def walkR (F : List Fib) (s : Int) (l : List Int) : Option (List Int) := l.foldl (fun acc i => acc.bind fun out => stepR F out i) (some [s])
theorem walk_none (F : List Fib) (l : List Int) : l.foldl (fun acc i => acc.bind fun out => stepR F out i) none = none := by
  induction l with
  | nil => rfl
  | cons a l ih => exact ih
theorem walk_step {F : List Fib} {s : Int} {l : List Int} {k : Nat} {out : List Int} {i : Int} (h : walkR F s (l.take k) = some out) (hi : l[k]? = some i) : walkR F s (l.take (k + 1)) = stepR F out i := by
  unfold walkR at *
  rw [List.take_add_one, hi, List.foldl_append, h]; rfl
theorem walk_dead {F : List Fib} {s : Int} {l : List Int} {k : Nat} (h : walkR F s (l.take k) = none) : walkR F s l = none := by
  unfold walkR at *
  rw [← List.take_append_drop k l, List.foldl_append, h]; exact walk_none F _
theorem stepR_out {F : List Fib} {out : List Int} {i : Int} (h : inB i 0 ((F.length : Int) - 1) = false) : stepR F out i = none := by unfold stepR; simp [h]
theorem stepR_bad {F : List Fib} {out : List Int} {i : Int} {f : Fib} (h : inB i 0 ((F.length : Int) - 1) = true) (hf : F[i.toNat]? = some f) (hb : other f (lastI out) < 0 ∨ other f (lastI out) ∈ out) : stepR F out i = none := by
  unfold stepR; simp only [h, if_true, hf]; rw [if_pos hb]
theorem stepR_good {F : List Fib} {out : List Int} {i : Int} {f : Fib} (h : inB i 0 ((F.length : Int) - 1) = true) (hf : F[i.toNat]? = some f) (hb : ¬ (other f (lastI out) < 0 ∨ other f (lastI out) ∈ out)) : stepR F out i = some (out ++ [other f (lastI out)]) := by
  unfold stepR; simp only [h, if_true, hf]; rw [if_neg hb]
theorem lastI_app (l : List Int) (x : Int) : lastI (l ++ [x]) = x := by unfold lastI; simp
theorem walk_len {F : List Fib} {s : Int} {l : List Int} : ∀ {k : Nat} {out : List Int}, k ≤ l.length → walkR F s (l.take k) = some out → out.length = k + 1 := by
  intro k
  induction k with
  | zero => intro out _ h; simp [walkR] at h; subst h; rfl
  | succ k ih =>
    intro out hk h
    cases ho : walkR F s (l.take k) with
    | none =>
      have : walkR F s (l.take (k + 1)) = none := by
        have := walk_dead (F := F) (s := s) (l := l.take (k + 1)) (k := k) (by rw [List.take_take, Nat.min_eq_left (by omega)]; exact ho)
        exact this
      rw [this] at h; cases h
    | some o =>
      have hlo := ih (by omega) ho
      have hx : l[k]? = some l[k] := List.getElem?_eq_getElem (by omega)
      rw [walk_step ho hx] at h
      unfold stepR at h
      split at h
      · split at h
        · split at h
          · cases h
          · cases h; simp [hlo]
        · cases h
      · cases h
/-- The nodes of a route; none if it is not valid in a valid network. -/
def visR (N : Nat) (F : List Fib) (s : Int) (l : List Int) : Option (List Int) := if inB s 0 ((N : Int) - 1) = true ∧ l.length ≠ 0 then walkR F s l else none
theorem visR_start {N : Nat} {F : List Fib} {s : Int} {l : List Int} (h : inB s 0 ((N : Int) - 1) = false) : visR N F s l = none := by unfold visR; rw [if_neg]; simp [h]
theorem visR_empty {N : Nat} {F : List Fib} {s : Int} {l : List Int} (h : l.length = 0) : visR N F s l = none := by unfold visR; rw [if_neg]; simp [h]
theorem visR_go {N : Nat} {F : List Fib} {s : Int} {l : List Int} (h : inB s 0 ((N : Int) - 1) = true) (h2 : l.length ≠ 0) : visR N F s l = walkR F s l := by unfold visR; rw [if_pos ⟨h, h2⟩]
/-- The call hands back a list of ints (of its own where there is one) and whether there is one. -/
def OutWalk (w : World) (R : Option (List Int)) (e : Ending) (w' : World) : Prop := ∃ p cap, ∃ xs : List Int, e = .returned (.tuple #[.slice p xs.length cap, .bool R.isSome]) ∧ Fresh w w' ∧ ∀ out, R = some out → xs = out ∧ Own w' w.heap.size 3 p (out.map iv)

set_option maxHeartbeats 1000000 in
theorem otherEnd_any (x y z u n : Int) (w : World) : Calls Tryz.prog 106 #[.agg #[.int .i64 x, .int .i64 y, .int .i64 z, .int .i64 u], .int .i64 n] w fun e w' => e = .returned (.int .i64 (other ⟨x, y, z, u⟩ n)) ∧ Fresh w w' := by
  by_cases h1 : n = x
  · have HE : Hid (other ⟨x, y, z, u⟩ n = y) := by show other ⟨x, y, z, u⟩ n = y; simp [other, h1]
    subst h1
    go_enter Tryz.func106, Tryz.ntmps106
    go_wp2
    go_ret
    exact ⟨ret_int HE.out.symm, fnew (frefl _) _⟩
  · have k1 : (n == x) = false := by simp [h1]
    by_cases h2 : n = y
    · have HE : Hid (other ⟨x, y, z, u⟩ n = x) := by show other ⟨x, y, z, u⟩ n = x; simp [other, h2]
      subst h2
      go_enter Tryz.func106, Tryz.ntmps106
      go_wp2
      go_ret
      exact ⟨ret_int HE.out.symm, fnew (frefl _) _⟩
    · have k2 : (n == y) = false := by simp [h2]
      have HE : Hid (other ⟨x, y, z, u⟩ n = -1) := by show other ⟨x, y, z, u⟩ n = -1; simp [other, h1, h2]
      go_enter Tryz.func106, Tryz.ntmps106
      go_wp2
      go_ret
      exact ⟨ret_int HE.out.symm, fnew (frefl _) _⟩

set_option maxHeartbeats 1000000 in
theorem l2Other_any (q p : Option Addr) (N c d : Nat) (F : List Fib) (i : Nat) (x y z u n : Int) (w : World) (hF : Fibs w p F) (hi : F[i]? = some ⟨x, y, z, u⟩) (_hd : F.length ≤ 1048576) :
    Calls Tryz.prog 148 #[.agg #[.slice q N c, .slice p F.length d], .int .i64 i, .int .i64 n] w fun e w' => e = .returned (.int .i64 (other ⟨x, y, z, u⟩ n)) ∧ Fresh w w' := by
  have hlt : i < F.length := by
    rcases Nat.lt_or_ge i F.length with h' | h'
    · exact h'
    · rw [List.getElem?_eq_none h'] at hi; cases hi
  have hltz : (i : Int) < (F.length : Int) := by omega
  have hbx := fnew (frefl w) (.cells #[.slice q N c, .slice p F.length d] 34)
  obtain ⟨b, off, x', y', z', u', rfl, hx, hc0, hc1, hc2, hc3⟩ := hF.at hlt
  rw [hi] at hx
  simp only [Option.some.injEq, Fib.mk.injEq] at hx
  obtain ⟨rfl, rfl, rfl, rfl⟩ := hx
  have e0 := fkeep hbx hc0
  have e1 := fkeep hbx hc1
  have e2 := fkeep hbx hc2
  have e3 := fkeep hbx hc3
  clear hi hF hbx
  by_cases h1 : n = x
  · have HE : Hid (other ⟨x, y, z, u⟩ n = y) := by show other ⟨x, y, z, u⟩ n = y; simp [other, h1]
    subst h1
    go_enter Tryz.func148, Tryz.ntmps148
    go_wp2
    go_ret
    exact ⟨ret_int HE.out.symm, fnew (fnew (frefl _) _) _⟩
  · have k1 : (n == x) = false := by simp [h1]
    by_cases h2 : n = y
    · have HE : Hid (other ⟨x, y, z, u⟩ n = x) := by show other ⟨x, y, z, u⟩ n = x; simp [other, h2]
      subst h2
      go_enter Tryz.func148, Tryz.ntmps148
      go_wp2
      go_ret
      exact ⟨ret_int HE.out.symm, fnew (fnew (frefl _) _) _⟩
    · have k2 : (n == y) = false := by simp [h2]
      have HE : Hid (other ⟨x, y, z, u⟩ n = -1) := by show other ⟨x, y, z, u⟩ n = -1; simp [other, h1, h2]
      go_enter Tryz.func148, Tryz.ntmps148
      go_wp2
      go_ret
      exact ⟨ret_int HE.out.symm, fnew (fnew (frefl _) _) _⟩
end Go.Proofs.YtjhaoonacjebpaaGreatDoor

/- Contracts: the walks along a route, both sides. -/
namespace Go.Proofs.YtjhaoonacjebpaaGreatDoor
open Go.RowKit Go.PlainAid

/-- Two variables that were boxed one after the other. -/
theorem two_boxes {w w1 : World} {a b c d : Value} {t1 t2 : TypeId} (h : Fresh ((w.alloc (.cells #[a, b] t1)).alloc (.cells #[c, d] t2)) w1) :
    w1.cell? ⟨w.heap.size, 0, none⟩ = some a ∧ w1.cell? ⟨w.heap.size, 1, none⟩ = some b ∧ w1.cell? ⟨w.heap.size + 1, 0, none⟩ = some c ∧ w1.cell? ⟨w.heap.size + 1, 1, none⟩ = some d := by
  have r1 := ((RowAt.new w t1 [a, b]).alloc (.cells #[c, d] t2)).keep h
  have r2 := (RowAt.new (w.alloc (.cells #[a, b] t1)) t2 [c, d]).keep h
  have e : (w.alloc (.cells #[a, b] t1)).heap.size = w.heap.size + 1 := by simp
  rw [e] at r2
  exact ⟨r1.cell (i := 0) rfl, r1.cell (i := 1) rfl, r2.cell (i := 0) rfl, r2.cell (i := 1) rfl⟩
theorem keep1 {w w' w'' : World} {b o : Nat} {v : Value} (h : Fresh w w' ∧ w'.cell? ⟨b, o, none⟩ = some v) (hb : Fresh w' w'') : Fresh w w'' ∧ w''.cell? ⟨b, o, none⟩ = some v := ⟨fstep h.1 hb, fkeep hb h.2⟩
theorem own1 (w0 w : World) (x : Int) (h : w0.heap.size ≤ w.heap.size) : (w.alloc (.cells #[.int .i64 x] 3)).ownsRow w0.heap.size 3 1 (.slice (some ⟨w.heap.size, 0, none⟩) 1 1) [x].length ([x].map iv) :=
  ⟨rfl, Or.inr ⟨w.heap.size, 1, #[.int .i64 x], rfl, h, heap_alloc_last _ _, Nat.le_refl _, by simp [maxLen], rfl, rfl⟩⟩
theorem ints_of_own {w : World} {b : Nat} {p : Option Addr} {n cap : Nat} {xs : List Int} (h : w.ownsRow b 3 1 (.slice p n cap) xs.length (xs.map iv)) : n = xs.length ∧ Ints w p xs := by
  obtain ⟨q, c, e, ho⟩ := own_of_row h
  cases e
  exact ⟨rfl, ho.cells⟩

set_option maxHeartbeats 4000000 in
set_option maxRecDepth 100000 in
theorem visited_any (v : Value) (n : Net) (s : Int) (q : Option Addr) (cap : Nat) (l : List Int) (w : World) (h : NetIn w v n) (hl : Ints w q l) (hn : l.length ≤ 1048576) :
    Calls Tryz.prog 56 #[v, .agg #[.int .i64 s, .slice q l.length cap]] w (OutWalk w (visR n.nodes.length n.fibers s l)) := by
  obtain ⟨N, F⟩ := n
  obtain ⟨qn, c, p, d, rfl, hN, hF, n1, n2, n3, n4, hsz⟩ := h
  simp only at hN hF n1 n2 n3 hsz ⊢
  clear hsz hN
  cases h1 : inB s 0 ((N.length : Int) - 1)
  · have HE := Lib.hid (visR_start (F := F) (l := l) h1)
    go_enter Tryz.func56, Tryz.ntmps56
    go_wp2_with (go_at_call 96; refine (within_any _ _ _ _).mono ?_; rintro e w' ⟨rfl, rfl⟩)
    go_ret2
    exact ⟨none, 0, [], by rw [HE.out]; rfl, fnew (fnew (frefl _) _) _, fun out ho => by rw [HE.out] at ho; cases ho⟩
  · by_cases h2 : l.length = 0
    · have HE := Lib.hid (visR_empty (N := N.length) (F := F) (s := s) h2)
      have hd : ((l.length : Int) == 0) = true := by simp [h2]
      have h2z : (l.length : Int) = 0 := by omega
      clear h2
      go_enter Tryz.func56, Tryz.ntmps56
      go_wp2_with (go_at_call 96; refine (within_any _ _ _ _).mono ?_; rintro e w' ⟨rfl, rfl⟩)
      go_ret2
      exact ⟨none, 0, [], by rw [HE.out]; rfl, fnew (fnew (frefl _) _) _, fun out ho => by rw [HE.out] at ho; cases ho⟩
    · have HE := Lib.hid (visR_go (F := F) h1 h2)
      have hd : ((l.length : Int) == 0) = false := by simp [h2]
      have h2z : ¬ (l.length : Int) = 0 := by omega
      have HL := Lib.hid hl
      have HFi := Lib.hid hF
      clear h2 hl hF
      go_enter Tryz.func56, Tryz.ntmps56
      go_wp2_with (go_at_call 96; refine (within_any _ _ _ _).mono ?_; rintro e w' ⟨rfl, rfl⟩)
      obtain ⟨W2, hW2⟩ : ∃ W2, W2 = (w.alloc (.cells #[.slice qn N.length c, .slice p F.length d] 34)).alloc (.cells #[.int .i64 s, .slice q l.length cap] 54) := ⟨_, rfl⟩
      rw [← hW2]
      have hf2 : Fresh w W2 := by rw [hW2]; exact fnew (fnew (frefl _) _) _
      have hbx := two_boxes (w := w) (w1 := W2) (a := .slice qn N.length c) (b := .slice p F.length d) (c := .int .i64 s) (d := .slice q l.length cap) (t1 := 34) (t2 := 54) (by rw [hW2]; exact frefl _)
      have hsz2 : W2.heap.size = w.heap.size + 1 + 1 := by rw [hW2]; simp
      obtain ⟨c00, c01, c10, c11⟩ := hbx
      have HSZ := Lib.hid hsz2
      have HF2 := Lib.hid hf2
      clear hW2 hf2 hsz2
      have HS : Fresh W2 W2 ∧ W2.cell? ⟨w.heap.size + 1, 0, none⟩ = some (.int .i64 s) := ⟨frefl _, c10⟩
      go_region_held3 (fun w' => Fresh W2 w' ∧ w'.cell? ⟨w.heap.size + 1, 0, none⟩ = some (.int .i64 s))
        (first | assumption | exact keep1 (by assumption) (fdrew (frefl _)) | exact keep1 (by assumption) (fnew (frefl _) _) | exact keep1 (by assumption) (frefl _))
        (first | skip)
      have HS2 : Hid (Fresh W2 ((W2.alloc (.cells #[.int .i64 s] 3)).drew)) := fdrew (fnew (frefl _) _)
      have HO2 : Hid (((W2.alloc (.cells #[.int .i64 s] 3)).drew).ownsRow W2.heap.size 3 1 (.slice (some ⟨W2.heap.size, 0, none⟩) 1 1) [s].length ([s].map iv)) := ownsRow_keep (own1 W2 W2 s (Nat.le_refl _)) (fdrew (frefl _))
      have HC := Lib.hid (And.intro c00 (And.intro c01 (And.intro c10 c11)))
      have d11 := fkeep HS2.out c11
      clear HS c00 c01 c10 c11
      generalize (W2.alloc (.cells #[.int .i64 s] 3)).drew = W3 at HS2 HO2 d11
      go_wp2
      clear d11
      go_loopw [6, 7, 9, 32] (fun o a _ i wr => ∃ (k : Nat) (out : List Int), k ≤ l.length ∧ i = .int .i64 k ∧ a = .int .i64 (lastI out) ∧ walkR F s (l.take k) = some out ∧ wr.ownsRow W2.heap.size 3 1 o out.length (out.map iv) ∧ Fresh W2 wr) (fun _ _ _ i _ => l.length - (intOf i).toNat)
      case atStart => exact ⟨0, [s], Nat.zero_le _, rfl, rfl, rfl, HO2.out, HS2.out⟩
      case round =>
        obtain ⟨k, out, hk, rfl, rfl, hwk, hown, hf⟩ := hrel
        have hol := walk_len hk hwk
        have hole : out.length ≤ 1048577 := by omega
        clear hol
        obtain ⟨po, co, rfl, ho⟩ := own_of_row hown
        have HOI : Hid (Ints wr po out) := (ints_of_own hown).2
        have HOW := Lib.hid hown
        have HWK := Lib.hid hwk
        have HF := Lib.hid hf
        have HOO := Lib.hid ho
        obtain ⟨c00, c01, c10, c11⟩ := HC.out
        replace c00 := fkeep hf c00
        replace c01 := fkeep hf c01
        replace c10 := fkeep hf c10
        replace c11 := fkeep hf c11
        clear hown hwk hf ho
        by_cases hlt : k < l.length
        · obtain ⟨b, off, i, rfl, hx, hc⟩ := (HL.out.keep (fstep HF2.out HF.out)).at hlt
          have hltz : (k : Int) < (l.length : Int) := by omega
          cases hi : inB i 0 ((F.length : Int) - 1)
          · have HN := Lib.hid (walk_dead (k := k + 1) (by rw [walk_step HWK.out hx, stepR_out hi]))
            clear hx
            go_wp2_with (go_at_call 96; refine (within_any _ _ _ _).mono ?_; rintro e w' ⟨rfl, rfl⟩)
            go_ret2
            exact ⟨none, 0, [], by rw [HE.out, HN.out]; rfl, fstep HF2.out HF.out, fun out' ho => by rw [HE.out, HN.out] at ho; cases ho⟩
          · obtain ⟨g1, g2⟩ := inB_iff.1 hi
            obtain ⟨m, rfl⟩ := Int.eq_ofNat_of_zero_le g1
            have hm : m < F.length := by omega
            have hmz : (m : Int) < (F.length : Int) := by omega
            obtain ⟨b2, off2, x, y, z, u, rfl, hfx, hc0, hc1, hc2, hc3⟩ := (HFi.out.keep (fstep HF2.out HF.out)).at hm
            have hst := walk_step HWK.out hx
            obtain ⟨X, hX⟩ : ∃ X, X = other ⟨x, y, z, u⟩ (lastI out) := ⟨_, rfl⟩
            have HX := Lib.hid hX
            clear hx hX
            go_wp2_with (go_at_call 96; refine (within_any _ _ _ _).mono ?_; rintro e w' ⟨rfl, rfl⟩)
            refine (otherEnd_any x y z u (lastI out) _).mono ?_
            rintro e w1 ⟨rfl, hb⟩
            rw [← HX.out]
            replace c00 := fkeep hb c00
            replace c01 := fkeep hb c01
            replace c11 := fkeep hb c11
            have HOI := Lib.hid (HOI.out.keep hb)
            have HOW := Lib.hid (ownsRow_keep HOW.out hb)
            have HF := Lib.hid (fstep HF.out hb)
            clear hb c10 hc hc0 hc1 hc2 hc3
            by_cases hneg : X < 0
            · have hdn : decide (X < 0) = true := decide_eq_true hneg
              have HN := Lib.hid (walk_dead (k := k + 1) (by rw [hst, stepR_bad hi (by rw [Int.toNat_natCast]; exact hfx) (Or.inl (by rw [← HX.out]; exact hneg))]))
              clear hst hfx
              go_wp2
              go_ret2
              exact ⟨none, 0, [], by rw [HE.out, HN.out]; rfl, fstep HF2.out HF.out, fun out' ho => by rw [HE.out, HN.out] at ho; cases ho⟩
            · have hdn : decide (X < 0) = false := decide_eq_false hneg
              by_cases hmem : X ∈ out
              · have hdm : decide (X ∈ out) = true := decide_eq_true hmem
                have HN := Lib.hid (walk_dead (k := k + 1) (by rw [hst, stepR_bad hi (by rw [Int.toNat_natCast]; exact hfx) (Or.inr (by rw [← HX.out]; exact hmem))]))
                clear hst hfx hmem
                go_wp2_with (go_at_call 107; refine (containsI_any _ _ _ _ _ HOI.out (by omega)).mono ?_; rintro e w2 ⟨rfl, rfl⟩)
                go_ret2
                exact ⟨none, 0, [], by rw [HE.out, HN.out]; rfl, fstep HF2.out HF.out, fun out' ho => by rw [HE.out, HN.out] at ho; cases ho⟩
              · have hdm : decide (X ∈ out) = false := decide_eq_false hmem
                have HN : Hid (walkR F s (l.take (k + 1)) = some (out ++ [X])) := by
                  show walkR F s (l.take (k + 1)) = some (out ++ [X])
                  rw [hst, stepR_good hi (by rw [Int.toNat_natCast]; exact hfx) (by rw [← HX.out]; exact fun h => h.elim hneg hmem), ← HX.out]
                have hown := HOW.out
                clear hst hfx hmem
                go_wp2_with (first
                  | (go_at_call 107; refine (containsI_any _ _ _ _ _ HOI.out (by omega)).mono ?_; rintro e w2 ⟨rfl, rfl⟩)
                  | (at_builtin; refine wpList_app_ints W2 _ _ out X rfl _ _ rfl rfl hown rfl (by omega) HF.out ?_; intro v' w2 hown2 hf2))
                have HO3 := Lib.hid hown2
                have HF3 := Lib.hid hf2
                clear hown hown2 hf2 c00 c01 c11
                go_wp2
                go_roundw
                case rel => exact ⟨k + 1, out ++ [X], by omega, by go_num, by rw [lastI_app], HN.out, HO3.out, HF3.out⟩
                case measure => simp [intOf]; omega
        · have hkn : k = l.length := by omega
          have hltz : ¬ (k : Int) < (l.length : Int) := by omega
          have HN : Hid (walkR F s l = some out) := by
            show walkR F s l = some out
            have := HWK.out; rw [hkn, List.take_length] at this; exact this
          go_wp2
          go_ret2
          refine ⟨po, co, out, by rw [HE.out, HN.out]; rfl, fstep HF2.out HF.out, fun out' ho => ?_⟩
          rw [HE.out, HN.out] at ho
          cases ho
          exact ⟨rfl, HOO.out.mono HF2.out.size⟩
end Go.Proofs.YtjhaoonacjebpaaGreatDoor

/- Contracts: the walk along a route, the reference's side. -/
namespace Go.Proofs.YtjhaoonacjebpaaGreatDoor
open Go.RowKit Go.PlainAid

theorem last_cell {w : World} {p : Option Addr} {l : List Int} (h : Ints w p l) (h0 : 0 < l.length) : ∃ b off, p = some ⟨b, off, none⟩ ∧ w.cell? ⟨b, off + (l.length - 1), none⟩ = some (.int .i64 (lastI l)) := by
  obtain ⟨b, off, x, rfl, hx, hc⟩ := h.at (k := l.length - 1) (by omega)
  refine ⟨b, off, rfl, ?_⟩
  have : lastI l = x := by unfold lastI; rw [List.getLast?_eq_getElem?, hx]; rfl
  rw [this]; exact hc

set_option maxHeartbeats 4000000 in
set_option maxRecDepth 100000 in
theorem l4Walk_any (v : Value) (n : Net) (s : Int) (q : Option Addr) (cap : Nat) (l : List Int) (w : World) (h : NetIn w v n) (hl : Ints w q l) (hn : l.length ≤ 1048576) :
    Calls Tryz.prog 121 #[v, .agg #[.int .i64 s, .slice q l.length cap]] w (OutWalk w (visR n.nodes.length n.fibers s l)) := by
  obtain ⟨N, F⟩ := n
  obtain ⟨qn, c, p, d, rfl, hN, hF, n1, n2, n3, n4, hsz⟩ := h
  simp only at hN hF n1 n2 n3 hsz ⊢
  clear hsz hN
  cases h1 : inB s 0 ((N.length : Int) - 1)
  · have HE := Lib.hid (visR_start (F := F) (l := l) h1)
    go_enter Tryz.func121, Tryz.ntmps121
    go_wp2_with (go_at_call 79; refine (l1In_any _ _ _ _).mono ?_; rintro e w' ⟨rfl, rfl⟩)
    go_ret2
    exact ⟨_, _, [s], by rw [HE.out]; rfl, fnew (fnew (fnew (frefl _) _) _) _, fun out ho => by rw [HE.out] at ho; cases ho⟩
  · by_cases h2 : l.length = 0
    · have HE := Lib.hid (visR_empty (N := N.length) (F := F) (s := s) h2)
      have hd : ((l.length : Int) == 0) = true := by simp [h2]
      have h2z : (l.length : Int) = 0 := by omega
      clear h2
      go_enter Tryz.func121, Tryz.ntmps121
      go_wp2_with (go_at_call 79; refine (l1In_any _ _ _ _).mono ?_; rintro e w' ⟨rfl, rfl⟩)
      go_ret2
      exact ⟨_, _, [s], by rw [HE.out]; rfl, fnew (fnew (fnew (frefl _) _) _) _, fun out ho => by rw [HE.out] at ho; cases ho⟩
    · have HE := Lib.hid (visR_go (F := F) h1 h2)
      have hd : ((l.length : Int) == 0) = false := by simp [h2]
      have h2z : ¬ (l.length : Int) = 0 := by omega
      have HL := Lib.hid hl
      have HFi := Lib.hid hF
      clear h2 hl hF
      obtain ⟨W2, hW2⟩ : ∃ W2, W2 = (w.alloc (.cells #[.slice qn N.length c, .slice p F.length d] 34)).alloc (.cells #[.int .i64 s, .slice q l.length cap] 54) := ⟨_, rfl⟩
      have hf2 : Fresh w W2 := by rw [hW2]; exact fnew (fnew (frefl _) _) _
      have hbx := two_boxes (w := w) (w1 := W2) (a := .slice qn N.length c) (b := .slice p F.length d) (c := .int .i64 s) (d := .slice q l.length cap) (t1 := 34) (t2 := 54) (by rw [hW2]; exact frefl _)
      have hsz2 : W2.heap.size = w.heap.size + 1 + 1 := by rw [hW2]; simp
      have HSZ := Lib.hid hsz2
      have HF2 := Lib.hid hf2
      have HC := Lib.hid hbx
      have HW2 := Lib.hid hW2
      clear hW2 hf2 hsz2 hbx
      have HS2 : Hid (Fresh W2 (W2.alloc (.cells #[.int .i64 s] 3))) := fnew (frefl _) _
      have HO2 : Hid ((W2.alloc (.cells #[.int .i64 s] 3)).ownsRow W2.heap.size 3 1 (.slice (some ⟨W2.heap.size, 0, none⟩) 1 1) [s].length ([s].map iv)) := own1 W2 W2 s (Nat.le_refl _)
      go_enter Tryz.func121, Tryz.ntmps121
      go_wp2_with (go_at_call 79; refine (l1In_any _ _ _ _).mono ?_; rintro e w' ⟨rfl, rfl⟩)
      go_loopw [6, 7, 8] (fun o i _ wr => ∃ (k : Nat) (out : List Int), k ≤ l.length ∧ i = .int .i64 k ∧ walkR F s (l.take k) = some out ∧ wr.ownsRow W2.heap.size 3 1 o out.length (out.map iv) ∧ Fresh W2 wr) (fun _ i _ _ => l.length - (intOf i).toNat)
      case atStart => exact ⟨0, [s], Nat.zero_le _, rfl, rfl, by have := HO2.out; rw [HSZ.out] at this; rw [HW2.out] at this ⊢; simpa using this, by have := HS2.out; rw [HW2.out] at this ⊢; exact this⟩
      case round =>
        obtain ⟨k, out, hk, rfl, hwk, hown, hf⟩ := hrel
        have hol := walk_len hk hwk
        have hole : out.length ≤ 1048577 := by omega
        have hol0 : 0 < out.length := by omega
        clear hol
        obtain ⟨po, co, rfl, ho⟩ := own_of_row hown
        have hoi : Ints wr po out := (ints_of_own hown).2
        obtain ⟨bo, oo, rfl, hlast⟩ := last_cell hoi hol0
        have HOI := Lib.hid hoi
        have HOW := Lib.hid hown
        have HWK := Lib.hid hwk
        have HF := Lib.hid hf
        have HOO := Lib.hid ho
        obtain ⟨c00, c01, c10, c11⟩ := HC.out
        replace c00 := fkeep hf c00
        replace c01 := fkeep hf c01
        replace c10 := fkeep hf c10
        replace c11 := fkeep hf c11
        clear hown hwk hf ho hoi
        by_cases hlt : k < l.length
        · obtain ⟨b, off, i, rfl, hx, hc⟩ := (HL.out.keep (fstep HF2.out HF.out)).at hlt
          have hltz : (k : Int) < (l.length : Int) := by omega
          cases hi : inB i 0 ((F.length : Int) - 1)
          · have HN := Lib.hid (walk_dead (k := k + 1) (by rw [walk_step HWK.out hx, stepR_out hi]))
            clear hx
            go_wp2
            go_quiet ((go_at_call 79; exact Calls.quiet_of_same (l1In_q _ _ _ _ _)))
            go_wp2
            go_ret2
            exact ⟨_, _, out, by rw [HE.out, HN.out]; rfl, fdrewN (fstep HF2.out HF.out) _, fun out' ho => by rw [HE.out, HN.out] at ho; cases ho⟩
          · obtain ⟨g1, g2⟩ := inB_iff.1 hi
            obtain ⟨m, rfl⟩ := Int.eq_ofNat_of_zero_le g1
            have hm : m < F.length := by omega
            have hmz : (m : Int) < (F.length : Int) := by omega
            obtain ⟨b2, off2, x, y, z, u, hfp, hfx, _⟩ := (HFi.out.keep (fstep HF2.out HF.out)).at hm
            clear hfp
            have hst := walk_step HWK.out hx
            obtain ⟨X, hX⟩ : ∃ X, X = other ⟨x, y, z, u⟩ (lastI out) := ⟨_, rfl⟩
            have HX := Lib.hid hX
            have HST := Lib.hid hst
            have HFX := Lib.hid hfx
            have ho1 : (out.length : Int) - 1 < (out.length : Int) := by omega
            have ho2 : 0 ≤ (out.length : Int) - 1 := by omega
            have ho4 : IntKind.i64.wrap ((out.length : Int) - 1) = (out.length : Int) - 1 := by rw [IntKind.wrap_i64]; omega
            have ho5 : ((out.length : Int) - 1).toNat = out.length - 1 := by omega
            have ho6 : 1 ≤ (out.length : Int) := by omega
            have ho3 : (out.length : Int) - 1 ≤ (out.length : Int) := by omega
            clear hx hX hst hfx
            go_wp2
            go_quiet ((go_at_call 79; exact Calls.quiet_of_same (l1In_q _ _ _ _ _)))
            generalize hwd : wr.drewN _ = wd
            have hb : Fresh wr wd := by rw [← hwd]; exact fdrewN (frefl _) _
            replace c00 := fkeep hb c00
            replace c01 := fkeep hb c01
            replace c10 := fkeep hb c10
            replace c11 := fkeep hb c11
            replace hc := fkeep hb hc
            replace hlast := fkeep hb hlast
            replace HOI := Lib.hid (HOI.out.keep hb)
            replace HOW := Lib.hid (ownsRow_keep HOW.out hb)
            replace HF := Lib.hid (fstep HF.out hb)
            replace HOO := Lib.hid (HOO.out.keep hb)
            clear hb hwd
            go_wp2
            go_still_tail 12, (by kernel_rfl)
            change wpList _ _ _ _ _ wd.drew
            have hb : Fresh wd wd.drew := fdrew (frefl _)
            replace c00 := fkeep hb c00
            replace c01 := fkeep hb c01
            replace c10 := fkeep hb c10
            replace c11 := fkeep hb c11
            replace hc := fkeep hb hc
            replace hlast := fkeep hb hlast
            replace HOI := Lib.hid (HOI.out.keep hb)
            replace HOW := Lib.hid (ownsRow_keep HOW.out hb)
            replace HF := Lib.hid (fstep HF.out hb)
            replace HOO := Lib.hid (HOO.out.keep hb)
            clear hb
            generalize wd.drew = we at c00 c01 c10 c11 hc hlast HOI HOW HF HOO
            go_wp2_with fail
            refine (l2Other_any qn p N.length c d F m x y z u (lastI out) _ (HFi.out.keep (fstep HF2.out HF.out)) HFX.out n2).mono ?_
            rintro e w1 ⟨rfl, hb⟩
            rw [← HX.out]
            replace c00 := fkeep hb c00
            replace c01 := fkeep hb c01
            replace c10 := fkeep hb c10
            replace c11 := fkeep hb c11
            replace hc := fkeep hb hc
            replace hlast := fkeep hb hlast
            replace HOI := Lib.hid (HOI.out.keep hb)
            replace HOW := Lib.hid (ownsRow_keep HOW.out hb)
            replace HF := Lib.hid (fstep HF.out hb)
            replace HOO := Lib.hid (HOO.out.keep hb)
            clear hb
            by_cases hneg : X < 0
            · have hdn : decide (X < 0) = true := decide_eq_true hneg
              have HN := Lib.hid (walk_dead (k := k + 1) (by rw [HST.out, stepR_bad hi (by rw [Int.toNat_natCast]; exact HFX.out) (Or.inl (by rw [← HX.out]; exact hneg))]))
              go_wp2
              go_ret2
              exact ⟨_, _, out, by rw [HE.out, HN.out]; rfl, fstep HF2.out HF.out, fun out' ho => by rw [HE.out, HN.out] at ho; cases ho⟩
            · have hdn : decide (X < 0) = false := decide_eq_false hneg
              by_cases hmem : X ∈ out
              · have hdm : decide (X ∈ out) = true := decide_eq_true hmem
                have HN := Lib.hid (walk_dead (k := k + 1) (by rw [HST.out, stepR_bad hi (by rw [Int.toNat_natCast]; exact HFX.out) (Or.inr (by rw [← HX.out]; exact hmem))]))
                clear hmem
                go_wp2_with (go_at_call 122; refine (l1Has_any _ _ _ _ _ HOI.out (by omega)).mono ?_; rintro e w2 ⟨rfl, rfl⟩)
                go_ret2
                exact ⟨_, _, out, by rw [HE.out, HN.out]; rfl, fstep HF2.out HF.out, fun out' ho => by rw [HE.out, HN.out] at ho; cases ho⟩
              · have hdm : decide (X ∈ out) = false := decide_eq_false hmem
                have HN : Hid (walkR F s (l.take (k + 1)) = some (out ++ [X])) := by
                  show walkR F s (l.take (k + 1)) = some (out ++ [X])
                  rw [HST.out, stepR_good hi (by rw [Int.toNat_natCast]; exact HFX.out) (by rw [← HX.out]; exact fun h => h.elim hneg hmem), ← HX.out]
                have hown := HOW.out
                clear hmem
                go_wp2_with (first
                  | (go_at_call 122; refine (l1Has_any _ _ _ _ _ HOI.out (by omega)).mono ?_; rintro e w2 ⟨rfl, rfl⟩)
                  | (at_builtin; refine wpList_app_ints W2 _ _ out X rfl _ _ rfl rfl hown rfl (by omega) HF.out ?_; intro v' w2 hown2 hf2))
                have HO3 := Lib.hid hown2
                have HF3 := Lib.hid hf2
                clear hown hown2 hf2 c00 c01 c10 c11 hc hlast
                go_wp2
                go_roundw
                case rel => exact ⟨k + 1, out ++ [X], by omega, by go_num, HN.out, HO3.out, HF3.out⟩
                case measure => simp [intOf]; omega
        · have hkn : k = l.length := by omega
          have hltz : ¬ (k : Int) < (l.length : Int) := by omega
          have HN : Hid (walkR F s l = some out) := by
            show walkR F s l = some out
            have := HWK.out; rw [hkn, List.take_length] at this; exact this
          go_wp2
          go_ret2
          refine ⟨_, co, out, by rw [HE.out, HN.out]; rfl, fstep HF2.out HF.out, fun out' ho => ?_⟩
          rw [HE.out, HN.out] at ho
          cases ho
          exact ⟨rfl, HOO.out.mono HF2.out.size⟩

def isVis (n : Net) (s : Int) (l : List Int) : Bool := (visR n.nodes.length n.fibers s l).isSome
set_option maxHeartbeats 2000000 in
theorem l4Good_any (v : Value) (n : Net) (s : Int) (q : Option Addr) (cap : Nat) (l : List Int) (w : World) (h : NetIn w v n) (hl : Ints w q l) (hn : l.length ≤ 1048576) :
    Calls Tryz.prog 84 #[v, .agg #[.int .i64 s, .slice q l.length cap]] w fun e w' => e = .returned (.bool (netB n && isVis n s l)) ∧ Fresh w w' := by
  have HN := Lib.hid h
  have HL := Lib.hid hl
  clear hl
  obtain ⟨qn, c, p, d, hv, _⟩ := h
  subst hv
  obtain ⟨W2, hW2⟩ : ∃ W2, W2 = (w.alloc (.cells #[.slice qn n.nodes.length c, .slice p n.fibers.length d] 34)).alloc (.cells #[.int .i64 s, .slice q l.length cap] 54) := ⟨_, rfl⟩
  have hf2 : Fresh w W2 := by rw [hW2]; exact fnew (fnew (frefl _) _) _
  have hbx := two_boxes (w := w) (w1 := W2) (a := .slice qn n.nodes.length c) (b := .slice p n.fibers.length d) (c := .int .i64 s) (d := .slice q l.length cap) (t1 := 34) (t2 := 54) (by rw [hW2]; exact frefl _)
  have HF2 := Lib.hid hf2
  have HC := Lib.hid hbx
  have HW2 := Lib.hid hW2
  clear hW2 hf2 hbx
  go_enter Tryz.func84, Tryz.ntmps84
  go_wp2_with fail
  rw [← HW2.out]
  refine (l2Good_any _ n _ (HN.out.keep HF2.out)).mono ?_
  rintro e w1 ⟨rfl, hb⟩
  obtain ⟨c00, c01, c10, c11⟩ := HC.out
  replace c00 := fkeep hb c00
  replace c01 := fkeep hb c01
  replace c10 := fkeep hb c10
  replace c11 := fkeep hb c11
  have HF := Lib.hid (fstep HF2.out hb)
  clear hb
  cases hnet : netB n
  · go_wp2
    go_ret
    exact ⟨ret_bool (by rw [hnet]; rfl), HF.out⟩
  · go_wp2_with fail
    refine (l4Walk_any _ n s q cap l _ (HN.out.keep HF.out) (HL.out.keep HF.out) hn).mono ?_
    rintro e w2 ⟨p2, cap2, xs, rfl, hb, _⟩
    have HF3 := Lib.hid (fstep HF.out hb)
    clear hb c00 c01 c10 c11
    go_wp2
    go_ret
    exact ⟨ret_bool (by rw [hnet]; rfl), HF3.out⟩
end Go.Proofs.YtjhaoonacjebpaaGreatDoor

/- Contracts: routes: sizes, copies, comparisons. -/
namespace Go.Proofs.YtjhaoonacjebpaaGreatDoor
open Go.RowKit Go.PlainAid

/-- A route as it lies in memory: its start, and where its fibers lie. -/
structure LR where
  start : Int
  q : Option Addr
  cap : Nat
  fibs : List Int
abbrev lrC (r : LR) : List Value := [iv r.start, .slice r.q r.fibs.length r.cap]
abbrev lrV (r : LR) : Value := .agg #[iv r.start, .slice r.q r.fibs.length r.cap]
/-- A route as such. -/
abbrev LR.val (r : LR) : Int × List Int := (r.start, r.fibs)

set_option maxHeartbeats 400000 in
theorem szIntS_any (p : Option Addr) (n cap : Nat) (left : Int) (w : World) (hn : n ≤ 9223372036854775807) (h0 : 0 ≤ left) (h1 : left ≤ 1048576) :
    Calls Tryz.prog 119 #[.slice p n cap, .int .i64 left] w (SzOut w left (n ≤ 1048576)) := by
  by_cases hb : left - (n : Int) < 0
  · go_enter Tryz.func119, Tryz.ntmps119
    go_wp2
    go_ret
    exact ⟨_, rfl, by omega, by omega, fun h => by omega, frefl _⟩
  · go_enter Tryz.func119, Tryz.ntmps119
    go_wp2
    go_ret
    exact ⟨_, rfl, by omega, by omega, fun h => by omega, frefl _⟩

set_option maxHeartbeats 400000 in
theorem szRoute_any (r : LR) (left : Int) (w : World) (hn : r.fibs.length ≤ 9223372036854775807) (h0 : 0 ≤ left) (h1 : left ≤ 1048576) :
    Calls Tryz.prog 78 #[lrV r, .int .i64 left] w (SzOut w left (r.fibs.length ≤ 1048576)) := by
  obtain ⟨s, q, cap, l⟩ := r
  simp only at hn ⊢
  go_enter Tryz.func78, Tryz.ntmps78
  go_wp2_with fail
  refine (szIntS_any q l.length cap left _ hn h0 h1).mono ?_
  rintro e w1 ⟨r, rfl, r0, r1, hr, hf⟩
  have HW := Lib.hid (fstep (fnew (frefl _) _) hf)
  have HR := Lib.hid hr
  clear hf hr
  by_cases hneg : r < 0
  · go_wp2
    go_ret
    exact ⟨_, rfl, by omega, by omega, fun h => by omega, HW.out⟩
  · go_wp2
    go_ret
    exact ⟨_, rfl, by omega, by omega, HR.out, HW.out⟩

set_option maxHeartbeats 1000000 in
theorem eqRoute_same (r r' : LR) (w : World) (he : r.val = r'.val) (hx : Ints w r.q r.fibs) (hy : Ints w r'.q r'.fibs) (hn : r.fibs.length ≤ 1048576) :
    Calls Tryz.prog 109 #[lrV r, lrV r'] w fun e w' => e = .returned (.bool true) ∧ Fresh w w' := by
  obtain ⟨s, q, cap, l⟩ := r
  obtain ⟨s', q', cap', l'⟩ := r'
  simp only [LR.val, Prod.mk.injEq] at he hx hy hn ⊢
  obtain ⟨rfl, rfl⟩ := he
  obtain ⟨W2, hW2⟩ : ∃ W2, W2 = (w.alloc (.cells #[.int .i64 s, .slice q l.length cap] 54)).alloc (.cells #[.int .i64 s, .slice q' l.length cap'] 54) := ⟨_, rfl⟩
  have hf2 : Fresh w W2 := by rw [hW2]; exact fnew (fnew (frefl _) _) _
  have HX := Lib.hid (hx.keep hf2)
  have HY := Lib.hid (hy.keep hf2)
  have HF2 := Lib.hid hf2
  have HW2 := Lib.hid hW2
  clear hx hy hf2 hW2
  go_enter Tryz.func109, Tryz.ntmps109
  go_wp2_with fail
  rw [← HW2.out]
  have hcc := eqIntS_any q q' cap cap' l l W2 HX.out HY.out (by omega)
  rw [show eqInts l l = true by simp [eqInts]] at hcc
  refine hcc.mono ?_
  clear hcc
  rintro e w1 ⟨rfl, hf⟩
  have HF := Lib.hid (fstep HF2.out hf)
  clear hf
  go_wp2
  go_ret
  exact ⟨rfl, HF.out⟩

def OutRoute (w : World) (r : LR) (e : Ending) (w' : World) : Prop := ∃ r' : LR, e = .returned (lrV r') ∧ r'.val = r.val ∧ Own w' w.heap.size 3 r'.q (r'.fibs.map iv) ∧ Fresh w w'
/-- Three variables that were laid one after the other. -/
theorem three_rows (w : World) (xs ys zz : List Value) (t1 t2 t3 : TypeId) : ∃ W3, W3 = ((w.alloc (.cells xs.toArray t1)).alloc (.cells ys.toArray t2)).alloc (.cells zz.toArray t3) ∧ W3.heap.size = w.heap.size + 1 + 1 + 1 ∧ Fresh w W3 ∧
    RowAt W3 w.heap.size t1 xs ∧ RowAt W3 (w.heap.size + 1) t2 ys ∧ RowAt W3 (w.heap.size + 1 + 1) t3 zz := by
  refine ⟨_, rfl, by simp, fnew (fnew (fnew (frefl _) _) _) _, ((RowAt.new w _ xs).alloc _).alloc _, ?_, ?_⟩
  · have := (RowAt.new (w.alloc (.cells xs.toArray t1)) t2 ys).alloc (.cells zz.toArray t3)
    simpa using this
  · have := RowAt.new ((w.alloc (.cells xs.toArray t1)).alloc (.cells ys.toArray t2)) t3 zz
    simpa using this

set_option maxHeartbeats 2000000 in
theorem toRoute_any (r : LR) (w : World) (hI : Ints w r.q r.fibs) (hn : r.fibs.length ≤ 1048576) : Calls Tryz.prog 92 #[lrV r] w (OutRoute w r) := by
  obtain ⟨s, q, cap, l⟩ := r
  simp only at hI hn ⊢
  obtain ⟨W3, hW3, hsz3, hf3, r1, r2, r3⟩ := three_rows w [.int .i64 s, .slice q l.length cap] [.int .i64 0, .slice none 0 0] [.int .i64 s, .slice none 0 0] 80 54 54
  have HW3 := Lib.hid hW3
  have HS := Lib.hid (And.intro hsz3 (And.intro hf3 (And.intro r1 (And.intro r2 r3))))
  have HI := Lib.hid hI
  clear hW3 hsz3 hf3 r1 r2 r3 hI
  go_enter Tryz.func92, Tryz.ntmps92
  go_wp2_with fail
  rw [← HW3.out]
  clear HW3
  obtain ⟨hsz3, hf3, r1, r2, r3⟩ := HS.out
  refine (toIntS_any q cap l _ (HI.out.keep hf3) hn).mono ?_
  rintro e w1 ⟨rfl, hrs, hf⟩
  have s2 := r2.keep hf
  have s3 := r3.keep hf
  have k20 := s2.cell (i := 0) rfl
  have k21 := s2.cell (i := 1) rfl
  have z20 := s2.frozen 0
  have z21 := s2.frozen 1
  have k30 := s3.cell (i := 0) rfl
  have k31 := s3.cell (i := 1) rfl
  have z31 := s3.frozen 1
  have HR := Lib.hid (And.intro hrs (fstep hf3 hf))
  have HZ := Lib.hid hsz3
  clear s2 s3 r1 r2 r3 hrs hf hf3 HS hsz3
  go_wp2
  obtain ⟨hrs, hf⟩ := HR.out
  have hsz3 := HZ.out
  refine bodyPost_ret (v := .agg #[.int .i64 s, .slice (some ⟨W3.heap.size, 0, none⟩) l.length l.length]) (by simp [results, Tryz.results92, go_sem, k20, k21]) rfl ?_
  refine ⟨⟨s, some ⟨W3.heap.size, 0, none⟩, l.length, l⟩, rfl, rfl, Or.inr ⟨W3.heap.size, [], rfl, by omega, ?_⟩, ?_⟩
  · rw [List.append_nil]
    repeat (refine RowAt.setOther ?_ (by omega) _)
    exact hrs
  · repeat (refine fset ?_ (by omega) _)
    exact hf
end Go.Proofs.YtjhaoonacjebpaaGreatDoor

/- Contracts: requests: sizes, copies, comparisons. -/
namespace Go.Proofs.YtjhaoonacjebpaaGreatDoor
open Go.RowKit Go.PlainAid

/-- A request as it lies in memory. -/
structure LQ where
  r : LR
  count : Int
abbrev lqC (x : LQ) : List Value := [iv x.r.start, .slice x.r.q x.r.fibs.length x.r.cap, iv x.count]
abbrev lqV (x : LQ) : Value := .agg #[iv x.r.start, .slice x.r.q x.r.fibs.length x.r.cap, iv x.count]
/-- A request as such. -/
abbrev LQ.val (x : LQ) : (Int × List Int) × Int := (x.r.val, x.count)
/-- The cells of a list of requests, and those of each one's fibers. -/
def Reqs (w : World) (p : Option Addr) (l : List LQ) : Prop := Cells w p (l.flatMap lqC) ∧ ∀ x ∈ l, Ints w x.r.q x.r.fibs
theorem Reqs.keep {w w' : World} {p : Option Addr} {l : List LQ} (h : Reqs w p l) (hb : Fresh w w') : Reqs w' p l := ⟨h.1.keep hb, fun x hx => (h.2 x hx).keep hb⟩
theorem lq_get {l : List LQ} {k : Nat} {f : LQ} (hx : l[k]? = some f) (r : Nat) (hr : r < 3) : (l.flatMap lqC)[k * 3 + r]? = (lqC f)[r]? := flat_get lqC 3 (fun _ => rfl) l k r hr f hx
theorem Reqs.at {w : World} {p : Option Addr} {l : List LQ} (h : Reqs w p l) {k : Nat} (hk : k < l.length) :
    ∃ b off x, p = some ⟨b, off, none⟩ ∧ l[k]? = some x ∧ x ∈ l ∧ Ints w x.r.q x.r.fibs ∧ w.cell? ⟨b, off + k * 3, none⟩ = some (.int .i64 x.r.start) ∧ w.cell? ⟨b, off + k * 3 + 1, none⟩ = some (.slice x.r.q x.r.fibs.length x.r.cap) ∧ w.cell? ⟨b, off + k * 3 + 2, none⟩ = some (.int .i64 x.count) := by
  obtain ⟨b, off, rfl, hc⟩ := Cells.at h.1 (k := k) (by rw [flat_len lqC 3 (fun _ => rfl)]; omega)
  have hx : l[k]? = some l[k] := by simp [hk]
  refine ⟨b, off, _, rfl, hx, List.getElem_mem hk, h.2 _ (List.getElem_mem hk), hc _ _ ?_, ?_, ?_⟩
  · have := lq_get hx 0 (by omega); simpa using this
  · have := hc (k * 3 + 1) _ (by rw [lq_get hx 1 (by omega)]; rfl); rw [← Nat.add_assoc] at this; exact this
  · have := hc (k * 3 + 2) _ (by rw [lq_get hx 2 (by omega)]; rfl); rw [← Nat.add_assoc] at this; exact this

def ReqsSmall (l : List LQ) : Prop := l.length ≤ 1048576 ∧ ∀ x ∈ l, x.r.fibs.length ≤ 1048576
end Go.Proofs.YtjhaoonacjebpaaGreatDoor

/- Contracts: requests copied; lists of requests compared. -/
namespace Go.Proofs.YtjhaoonacjebpaaGreatDoor
open Go.RowKit Go.PlainAid

def OutReq (w : World) (x : LQ) (e : Ending) (w' : World) : Prop := ∃ y : LQ, e = .returned (lqV y) ∧ y.val = x.val ∧ Own w' w.heap.size 3 y.r.q (y.r.fibs.map iv) ∧ Fresh w w'
abbrev zReq : List Value := [iv 0, .slice none 0 0, iv 0]
theorem setL_row (f : LQ → List Value) (l' : List LQ) (a : LQ) (m : Nat) (z : List Value) (hf : ∀ x, (f x).length = z.length) : setL (l'.flatMap f ++ zs z (m + 1)) (l'.length * z.length) (f a) = (l' ++ [a]).flatMap f ++ zs z m := by
  have hl : (l'.flatMap f).length = l'.length * z.length := flat_len f z.length hf l'
  rw [zs_succ, ← hl, setL_mid (f a) _ z _ (by rw [hf])]
  simp

end Go.Proofs.YtjhaoonacjebpaaGreatDoor

/- Contracts: lists of requests compared; valid requests, the reference's side. -/
namespace Go.Proofs.YtjhaoonacjebpaaGreatDoor
open Go.RowKit Go.PlainAid

def reqB (n : Net) (v : (Int × List Int) × Int) : Bool := isVis n v.1.1 v.1.2 && inB v.2 1 24
def reqsB (n : Net) (l : List ((Int × List Int) × Int)) : Bool := netB n && decide (l.length ≤ 7) && l.all (reqB n)
theorem reqsB_net {n : Net} {l : List ((Int × List Int) × Int)} (h : netB n = false) : reqsB n l = false := by unfold reqsB; rw [h]; rfl
theorem reqsB_long {n : Net} {l : List ((Int × List Int) × Int)} (h : ¬ l.length ≤ 7) : reqsB n l = false := by unfold reqsB; rw [decide_eq_false h]; simp
theorem reqsB_all {n : Net} {l : List ((Int × List Int) × Int)} (h : netB n = true) (h2 : l.length ≤ 7) : reqsB n l = l.all (reqB n) := by unfold reqsB; rw [h, decide_eq_true h2]; simp

end Go.Proofs.YtjhaoonacjebpaaGreatDoor

/- Contracts: valid requests, the program's side. -/
namespace Go.Proofs.YtjhaoonacjebpaaGreatDoor
open Go.RowKit Go.PlainAid

end Go.Proofs.YtjhaoonacjebpaaGreatDoor

/- Routes that came in, opened cell by cell. -/
namespace Go.Proofs.YtjhaoonacjebpaaGreatDoor
open Go.RowKit Go.ChangeShapes Go.WideShapes Go.ChangeAt Go.Joins

instance : Inhabited LR := ⟨⟨0, none, 0, []⟩⟩
theorem cells_is : Tryz.prog.cellsOf 52 = 1 := by kernel_rfl
theorem cells_rt : Tryz.prog.cellsOf 80 = 2 := by kernel_rfl
section
variable {H : Type} {enc : TypeId × Value → H}
set_option maxRecDepth 100000 in
theorem ints_of_cells {W : World} {fuel : Nat} {cs : List Value} {x : DataW H × List MemPlace} (hfu : DataW.trod enc Tryz.prog W 0 (fun _ => true) true fuel 52 cs = some x) :
    ∃ (q : Option Addr) (cap : Nat) (l : List Int), cs = [.slice q l.length cap] ∧ Ints W q l ∧ l.length ≤ 9223372036854775807 := by
  obtain ⟨q, cap, l, h1, h2, h3, h4, _⟩ := slice_of_cells (fun n : Int => [iv n]) In64 Tryz.underlying52 cells_i (by omega) (fun _ => rfl) (fun fuel cs x hx => by
    obtain ⟨n, rfl, _, hw⟩ := DataW.trod_int Tryz.underlying3 hx
    exact ⟨n, rfl, bounds_i64 hw⟩) hfu
  refine ⟨q, cap, l, h1, ?_, by omega⟩
  unfold Ints
  have e : l.map iv = l.flatMap fun x : Int => [iv x] := flat_one _ _
  rw [e]; exact h2
set_option maxRecDepth 100000 in
theorem route_of_cells {W : World} {fuel : Nat} {cs : List Value} {x : DataW H × List MemPlace} (h : DataW.trod enc Tryz.prog W 0 (fun _ => true) true fuel 80 cs = some x) :
    ∃ a : LR, cs = lrC a ∧ Ints W a.q a.fibs ∧ a.fibs.length ≤ 9223372036854775807 := by
  obtain ⟨y0, y1, k, _, hlen, h0, h1⟩ := trod_struct2 Tryz.underlying80 h
  rw [cells_rt] at hlen
  match cs, hlen with
  | [u0, u1], _ =>
    have h0' : DataW.trod enc Tryz.prog W 0 (fun _ => true) true k 3 [u0] = some y0 := by
      have := h0; simp only at this; rw [cells_i] at this; exact this
    have h1' : DataW.trod enc Tryz.prog W 0 (fun _ => true) true k 52 [u1] = some y1 := by
      have := h1; simp only at this; rw [cells_is] at this; exact this
    obtain ⟨s, e0, _, _⟩ := DataW.trod_int Tryz.underlying3 h0'
    obtain ⟨q, cap, l, e1, hI, hn⟩ := ints_of_cells h1'
    cases e0; cases e1
    exact ⟨⟨s, q, cap, l⟩, rfl, hI, hn⟩
end
end Go.Proofs.YtjhaoonacjebpaaGreatDoor

/- Requests that came in, opened cell by cell. -/
namespace Go.Proofs.YtjhaoonacjebpaaGreatDoor
open Go.RowKit Go.ChangeShapes Go.WideShapes Go.ChangeAt Go.Joins

instance : Inhabited LQ := ⟨⟨default, 0⟩⟩
section
variable {H : Type} {enc : TypeId × Value → H}
end
end Go.Proofs.YtjhaoonacjebpaaGreatDoor

/- Lists of requests as one value (came in; small; read). -/
namespace Go.Proofs.YtjhaoonacjebpaaGreatDoor
open Go.RowKit Go.PlainAid

def RqRaw (w : World) (v : Value) (L : List ((Int × List Int) × Int)) : Prop := ∃ p cap l, v = .slice p l.length cap ∧ Reqs w p l ∧ l.length ≤ 9223372036854775807 ∧ (∀ x ∈ l, x.r.fibs.length ≤ 9223372036854775807) ∧ L = l.map LQ.val
def RqSmall (L : List ((Int × List Int) × Int)) : Prop := L.length ≤ 1048576 ∧ ∀ x ∈ L, x.1.2.length ≤ 1048576
def RqIn (w : World) (v : Value) (L : List ((Int × List Int) × Int)) : Prop := ∃ p cap l, v = .slice p l.length cap ∧ Reqs w p l ∧ ReqsSmall l ∧ L = l.map LQ.val
theorem RqRaw.keep {w w' : World} {v : Value} {L : List ((Int × List Int) × Int)} (h : RqRaw w v L) (hb : Fresh w w') : RqRaw w' v L := by
  obtain ⟨p, cap, l, h1, h2, r⟩ := h
  exact ⟨p, cap, l, h1, h2.keep hb, r⟩
theorem RqIn.keep {w w' : World} {v : Value} {L : List ((Int × List Int) × Int)} (h : RqIn w v L) (hb : Fresh w w') : RqIn w' v L := by
  obtain ⟨p, cap, l, h1, h2, r⟩ := h
  exact ⟨p, cap, l, h1, h2.keep hb, r⟩
theorem rqsmall_of {l : List LQ} (h : ReqsSmall l) : RqSmall (l.map LQ.val) := by
  refine ⟨by simpa using h.1, fun x hx => ?_⟩
  obtain ⟨y, hy, rfl⟩ := List.mem_map.1 hx
  exact h.2 y hy
theorem rqsmall_to {l : List LQ} (h : RqSmall (l.map LQ.val)) : ReqsSmall l :=
  ⟨by simpa using h.1, fun x hx => h.2 x.val (List.mem_map_of_mem hx)⟩
theorem RqRaw.small {w : World} {v : Value} {L : List ((Int × List Int) × Int)} (h : RqRaw w v L) (hs : RqSmall L) : RqIn w v L := by
  obtain ⟨p, cap, l, h1, h2, _, _, rfl⟩ := h
  exact ⟨p, cap, l, h1, h2, rqsmall_to hs, rfl⟩
end Go.Proofs.YtjhaoonacjebpaaGreatDoor

/- Requests that came in, as one value. -/
namespace Go.Proofs.YtjhaoonacjebpaaGreatDoor
open Go.RowKit Go.ChangeShapes Go.WideShapes Go.ChangeAt Go.Joins
end Go.Proofs.YtjhaoonacjebpaaGreatDoor

/- Routes as one value (came in; small; read). -/
namespace Go.Proofs.YtjhaoonacjebpaaGreatDoor
open Go.RowKit Go.PlainAid

def RtRaw (w : World) (v : Value) (R : Int × List Int) : Prop := ∃ s q cap l, v = .agg #[.int .i64 s, .slice q l.length cap] ∧ Ints w q l ∧ l.length ≤ 9223372036854775807 ∧ R = (s, l)
def RtSmall (R : Int × List Int) : Prop := R.2.length ≤ 1048576
def RtIn (w : World) (v : Value) (R : Int × List Int) : Prop := ∃ s q cap l, v = .agg #[.int .i64 s, .slice q l.length cap] ∧ Ints w q l ∧ l.length ≤ 1048576 ∧ R = (s, l)
theorem RtRaw.keep {w w' : World} {v : Value} {R : Int × List Int} (h : RtRaw w v R) (hb : Fresh w w') : RtRaw w' v R := by
  obtain ⟨s, q, cap, l, h1, h2, h3⟩ := h
  exact ⟨s, q, cap, l, h1, h2.keep hb, h3⟩
theorem RtIn.keep {w w' : World} {v : Value} {R : Int × List Int} (h : RtIn w v R) (hb : Fresh w w') : RtIn w' v R := by
  obtain ⟨s, q, cap, l, h1, h2, h3⟩ := h
  exact ⟨s, q, cap, l, h1, h2.keep hb, h3⟩
theorem RtRaw.small {w : World} {v : Value} {R : Int × List Int} (h : RtRaw w v R) (hs : RtSmall R) : RtIn w v R := by
  obtain ⟨s, q, cap, l, h1, h2, h3, rfl⟩ := h
  exact ⟨s, q, cap, l, h1, h2, hs, rfl⟩
theorem RtRaw.shape {w : World} {v : Value} {R : Int × List Int} (h : RtRaw w v R) : ∃ s q m c, v = .agg #[.int .i64 s, .slice q m c] := by
  obtain ⟨s, q, cap, l, h1, _⟩ := h
  exact ⟨_, _, _, _, h1⟩
theorem RtIn.shape {w : World} {v : Value} {R : Int × List Int} (h : RtIn w v R) : ∃ s q m c, v = .agg #[.int .i64 s, .slice q m c] := by
  obtain ⟨s, q, cap, l, h1, _⟩ := h
  exact ⟨_, _, _, _, h1⟩
theorem szRoute_k (v : Value) (R : Int × List Int) (left : Int) (w : World) (h : RtRaw w v R) (h0 : 0 ≤ left) (h1 : left ≤ 1048576) : Calls Tryz.prog 78 #[v, .int .i64 left] w (SzOut w left (RtSmall R)) := by
  obtain ⟨s, q, cap, l, rfl, h2, h3, rfl⟩ := h
  exact szRoute_any ⟨s, q, cap, l⟩ left w h3 h0 h1
theorem toRoute_k (v : Value) (R : Int × List Int) (w : World) (h : RtIn w v R) : Calls Tryz.prog 92 #[v] w fun e w' => ∃ v', e = .returned v' ∧ RtIn w' v' R ∧ Fresh w w' := by
  obtain ⟨s, q, cap, l, rfl, h2, h3, rfl⟩ := h
  refine (toRoute_any ⟨s, q, cap, l⟩ w h2 h3).mono ?_
  rintro e w' ⟨⟨s', q', cap', l'⟩, he, hv, ho, hf⟩
  simp only [LR.val, Prod.mk.injEq] at hv ho
  obtain ⟨rfl, rfl⟩ := hv
  exact ⟨_, he, ⟨s', q', cap', l', rfl, ho.cells, h3, rfl⟩, hf⟩
theorem eqRoute_k (v v' : Value) (R : Int × List Int) (w : World) (h : RtIn w v R) (h' : RtIn w v' R) : Calls Tryz.prog 109 #[v, v'] w fun e w' => e = .returned (.bool true) ∧ Fresh w w' := by
  obtain ⟨s, q, cap, l, rfl, h2, h3, rfl⟩ := h
  obtain ⟨s', q', cap', l', rfl, h2', h3', he⟩ := h'
  exact eqRoute_same ⟨s, q, cap, l⟩ ⟨s', q', cap', l'⟩ w he h2 h2' h3
end Go.Proofs.YtjhaoonacjebpaaGreatDoor

/- Marks of arguments: requests, routes. -/
namespace Go.Proofs.YtjhaoonacjebpaaGreatDoor
open Go.RowKit Go.PlainAid

abbrev intT : TypeId → Prop := fun t => t = 3
end Go.Proofs.YtjhaoonacjebpaaGreatDoor

/- Contracts: slices.Sort and slices.Compact of a slice of ints of the call's own; what two lists have in common. -/
namespace Go.Proofs.YtjhaoonacjebpaaGreatDoor
open Go.RowKit Go.PlainAid Go.Sort

def sortI (l : List Int) : List Int := l.mergeSort fun x y => decide (x ≤ y)
theorem sortI_len (l : List Int) : (sortI l).length = l.length := by unfold sortI; simp
theorem sortI_mem (l : List Int) (x : Int) : x ∈ sortI l ↔ x ∈ l := by unfold sortI; simp
theorem int_inj {zs ys : List Int} (h : zs.map iv = ys.map iv) : zs = ys := by
  induction zs generalizing ys with
  | nil => cases ys with | nil => rfl | cons => simp at h
  | cons a l ih => cases ys with
    | nil => simp at h
    | cons b m => simp only [List.map_cons, List.cons.injEq, iv, Value.int.injEq, true_and] at h; rw [h.1, ih h.2]

theorem sort_own (w0 w : World) (v : Value) (zs : List Int) (hown : w.ownsRow w0.heap.size 3 1 v zs.length (zs.map iv)) (hf : Fresh w0 w) (hbig : zs.length ≤ 1099511627776) :
    Calls Tryz.prog 128 #[v] w fun e w' => e = .returned (.tuple #[]) ∧ w'.ownsRow w0.heap.size 3 1 v zs.length ((sortI zs).map iv) ∧ Fresh w0 w' := by
  rcases hown.2 with ⟨rfl, hz⟩ | ⟨g, cap, cur, rfl, hb, hg, hn, hm, hs, ht⟩
  · have h0 : zs = [] := by simpa using hz
    subst h0
    refine (Tryz.slices_Sort_int_none none 0 w).mono ?_
    rintro e w' ⟨rfl, rfl⟩
    exact ⟨rfl, by simpa [sortI] using hown, hf⟩
  · rw [Nat.mul_one] at ht
    have hlt : g < w.heap.size := by
      rcases Nat.lt_or_ge g w.heap.size with h' | h'
      · exact h'
      · rw [Array.getElem?_eq_none h'] at hg; cases hg
    refine (Tryz.slices_Sort_int g 0 cap zs w (holds_of_blockI hg ht) hlt (by omega)).mono ?_
    rintro e w' ⟨rfl, n, os, rfl⟩
    exact ⟨rfl, ownsRow_sortedI (ss := zs) (ts := sortI zs) (sortI_len zs) hb hg hn hm hs, fgrown (v := .slice (some ⟨g, 0, none⟩) zs.length cap) hf (grownBy_sortedI (w := w) _) (fun k hk => by simp only [Value.ownBlock, Option.some.injEq] at hk; omega)⟩

theorem compact_own (w0 w : World) (v : Value) (zs : List Int) (hown : w.ownsRow w0.heap.size 3 1 v zs.length (zs.map iv)) (hf : Fresh w0 w) :
    Calls Tryz.prog 129 #[v] w fun e w' => ∃ v', e = .returned v' ∧ w'.ownsRow w0.heap.size 3 1 v' (Lib.compact zs).length ((Lib.compact zs).map iv) ∧ Fresh w0 w' := by
  rcases hown.2 with ⟨rfl, hz⟩ | ⟨g, cap, cur, rfl, hb, hg, hn, hm, hs, ht⟩
  · have h0 : zs = [] := by simpa using hz
    subst h0
    refine (Tryz.slices_Compact_int_empty none 0 w).mono ?_
    rintro e w' ⟨rfl, rfl⟩
    exact ⟨_, rfl, by simpa [Lib.compact, Lib.compactUpTo] using hown, hf⟩
  · rw [Nat.mul_one] at ht
    refine (Tryz.slices_Compact_int g 0 cap zs w (holds_of_blockI hg ht) (by unfold maxLen at hm; omega) hn).mono ?_
    rintro e w' ⟨rfl, q, rfl⟩
    have hc : (Lib.compact zs).length ≤ zs.length := by
      unfold Lib.compact Lib.compactUpTo
      rw [List.length_map]
      have := List.length_filter_le (Lib.keeps zs.toArray) (List.range zs.length)
      simpa using this
    have := Lib.ownsRow_putRow (enc := Value.int .i64) (q := q) (k := (Lib.compact zs).length) (ys := Lib.compact zs ++ List.replicate (zs.length - (Lib.compact zs).length) 0) hown (by simp; omega) hc
    rw [List.take_left] at this
    exact ⟨_, rfl, this, Lib.below_putRow hf hb⟩

theorem compact_ne {zs : List Int} (h : zs ≠ []) : Lib.compact zs ≠ [] := by
  have : ∀ m, 0 < m → Lib.compactUpTo zs.toArray m ≠ [] := by
    intro m hm
    induction m with
    | zero => omega
    | succ m ih =>
      rw [Lib.compactUpTo_succ]
      rcases Nat.eq_zero_or_pos m with h0 | h0
      · subst h0
        rw [if_pos (Lib.keeps_lt_one _ 0 (by omega))]; simp
      · simp [ih h0]
  exact this _ (List.length_pos_iff.2 h)
theorem compact_nil : Lib.compact ([] : List Int) = [] := by simp [Lib.compact, Lib.compactUpTo]
/-- What two lists have in common, rising. -/
def commonF (a b : List Int) : List Int := Lib.compact (sortI (a.filter fun k => decide (k ∈ b)))
def usesB (a b : List Int) : Bool := a.any fun k => decide (k ∈ b)
theorem common_pos (a b : List Int) : decide (0 < ((commonF a b).length : Int)) = usesB a b := by
  unfold usesB
  cases h : a.any fun k => decide (k ∈ b)
  · have e : (a.filter fun k => decide (k ∈ b)) = [] := by
      rw [List.filter_eq_nil_iff]
      intro x hx
      rw [List.any_eq_false] at h
      exact h x hx
    unfold commonF; rw [e]; simp [sortI, compact_nil]
  · have e : (a.filter fun k => decide (k ∈ b)) ≠ [] := by
      intro he
      rw [List.filter_eq_nil_iff] at he
      rw [List.any_eq_true] at h
      obtain ⟨x, hx, h2⟩ := h
      exact he x hx h2
    have h2 : sortI (a.filter fun k => decide (k ∈ b)) ≠ [] := by
      intro h0
      have := congrArg List.length h0
      rw [sortI_len] at this
      exact e (List.eq_nil_of_length_eq_zero (by simpa using this))
    have := List.length_pos_iff.2 (compact_ne h2)
    unfold commonF
    simp only [decide_eq_true_eq]
    omega
theorem filt_step {a : List Int} {f : Int → Bool} {k : Nat} {x : Int} (hx : a[k]? = some x) : (a.take (k + 1)).filter f = if f x then (a.take k).filter f ++ [x] else (a.take k).filter f := by
  rw [List.take_add_one, hx, List.filter_append]
  cases h : f x <;> simp [h]

set_option maxHeartbeats 2000000 in
set_option maxRecDepth 100000 in
theorem common_any (p q : Option Addr) (c d : Nat) (a b : List Int) (w : World) (ha : Ints w p a) (hb : Ints w q b) (na : a.length ≤ 1048576) (nb : b.length ≤ 1048576) :
    Calls Tryz.prog 101 #[.slice p a.length c, .slice q b.length d] w (OutInts w (commonF a b)) := by
  go_enter Tryz.func101, Tryz.ntmps101
  go_wp2
  go_loopw [5, 7, 11] (fun o _ i wr => ∃ k : Nat, k ≤ a.length ∧ i = .int .i64 k ∧ wr.ownsRow w.heap.size 3 1 o ((a.take k).filter fun k => decide (k ∈ b)).length (((a.take k).filter fun k => decide (k ∈ b)).map iv) ∧ Fresh w wr) (fun _ _ i _ => a.length - (intOf i).toNat)
  case atStart => exact ⟨0, Nat.zero_le _, rfl, World.ownsRow_made w #[] 0 (Nat.le_refl _) (by simp [maxLen]) rfl, fnew (frefl _) _⟩
  case round =>
    obtain ⟨k, hk, rfl, hown, hf⟩ := hrel
    have HF := Lib.hid hf
    obtain ⟨L, hL⟩ : ∃ L, L = (a.take k).filter fun k => decide (k ∈ b) := ⟨_, rfl⟩
    have hLn : L.length ≤ 1048576 := by
      rw [hL]
      have h1 := List.length_filter_le (fun k => decide (k ∈ b)) (a.take k)
      have h2 : (a.take k).length ≤ a.length := by simp; omega
      omega
    rw [← hL] at hown
    have HO := Lib.hid hown
    have HL := Lib.hid hL
    clear hown hL
    by_cases hlt : k < a.length
    · have hltz : (k : Int) < (a.length : Int) := by omega
      obtain ⟨b1, off, x, rfl, hx, hc⟩ := (ha.keep hf).at hlt
      have HST := Lib.hid (filt_step (f := fun k => decide (k ∈ b)) hx)
      have HB := Lib.hid (hb.keep hf)
      clear hx hf
      by_cases hmem : x ∈ b
      · have hdm : decide (x ∈ b) = true := decide_eq_true hmem
        have HN : Hid ((a.take (k + 1)).filter (fun k => decide (k ∈ b)) = L ++ [x]) := by show _ = _; rw [HST.out, if_pos hdm, HL.out]
        have hown := HO.out
        clear hmem
        go_wp2_with (first
          | (go_at_call 107; refine (containsI_any _ _ _ _ _ HB.out (by omega)).mono ?_; rintro e w2 ⟨rfl, rfl⟩)
          | (at_builtin; refine wpList_app_ints w _ _ L x rfl _ _ rfl rfl hown rfl (by omega) HF.out ?_; intro v' w2 hown2 hf2))
        have HO2 := Lib.hid hown2
        have HF2 := Lib.hid hf2
        clear hown hown2 hf2 hc
        go_wp2
        go_roundw
        case rel => exact ⟨k + 1, by omega, by go_num, by rw [HN.out]; exact HO2.out, HF2.out⟩
        case measure => simp [intOf]; omega
      · have hdm : decide (x ∈ b) = false := decide_eq_false hmem
        have HN : Hid ((a.take (k + 1)).filter (fun k => decide (k ∈ b)) = L) := by show _ = _; rw [HST.out, if_neg (by simp [hmem]), HL.out]
        clear hmem
        go_wp2_with (go_at_call 107; refine (containsI_any _ _ _ _ _ HB.out (by omega)).mono ?_; rintro e w2 ⟨rfl, rfl⟩)
        go_roundw
        case rel => exact ⟨k + 1, by omega, by go_num, by rw [HN.out]; exact HO.out, HF.out⟩
        case measure => simp [intOf]; omega
    · have hkn : k = a.length := by omega
      have hltz : ¬ (k : Int) < (a.length : Int) := by omega
      have HL2 : Hid (L = a.filter fun k => decide (k ∈ b)) := by show L = _; rw [HL.out, hkn, List.take_length]
      clear hf HL
      go_wp2_with fail
      refine (sort_own w _ _ L HO.out HF.out (by omega)).mono ?_
      rintro e w1 ⟨rfl, ho1, hf1⟩
      have HO1 := Lib.hid ho1
      have HF1 := Lib.hid hf1
      clear ho1 hf1
      go_wp2_with fail
      refine (compact_own w _ _ (sortI L) (by rw [sortI_len]; exact HO1.out) HF1.out).mono ?_
      rintro e w2 ⟨v2, rfl, ho2, hf2⟩
      obtain ⟨p2, c2, rfl, ho3⟩ := own_of_row ho2
      have HO3 := Lib.hid ho3
      have HF2 := Lib.hid hf2
      clear ho2 hf2 ho3
      go_wp2
      go_ret
      exact ⟨p2, c2, by unfold commonF; rw [← HL2.out]; rfl, by unfold commonF; rw [← HL2.out]; exact HO3.out, HF2.out⟩
end Go.Proofs.YtjhaoonacjebpaaGreatDoor

