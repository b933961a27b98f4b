/- Texts of mine laid together (Base, Range, Fill, Ints, Blk, Mkf, Bits, Pop, Cnt, Mark, Mw, Tail, Rk): contracts of functions and plain laws. -/
import Derived.Test.YtjhaoonacjebpaaGreatDoorRows
import Derived.WalkKit
import Derived.WalkSpells
import Derived.WalkLawsBesides
import Derived.Deep.QuietTactic
import Derived.BigQuiet
import Derived.BigGuardPart
import Derived.Lib.Hide
import Derived.Deep.WholeRow
import Derived.Laws.MakeOwn
import Derived.OwnWalk
import Derived.PlainAid
import Derived.StillTail
import Derived.Deep.Quiet
/- Small general lemmas (no program in sight): what a call leaves of old memory, ranges as Bool functions, slices that read as lists. -/
namespace Go.Proofs.YtjhaoonacjebpaaGreatDoor
open Go.RowKit

theorem bcell {W w1 : World} (hb : Below W.heap.size W w1) : (∀ b o, b < W.heap.size → w1.cell? ⟨b, o, none⟩ = W.cell? ⟨b, o, none⟩) ∧ (∀ b o, b < W.heap.size → w1.frozen? ⟨b, o, none⟩ = W.frozen? ⟨b, o, none⟩) :=
  ⟨fun b o h => hb.cell (p := ⟨b, o, none⟩) h, fun b o h => hb.frozen (p := ⟨b, o, none⟩) h⟩

/-- Below the heap's size at the start the world has not turned. -/
abbrev Fresh (w w' : World) : Prop := Below w.heap.size w w'
theorem fstep {w a b : World} (h : Fresh w a) (k : Fresh a b) : Fresh w b := h.trans (k.mono h.size)
theorem fnew {w a : World} (h : Fresh w a) (o : Obj) : Fresh w (a.alloc o) := h.alloc h.size o
theorem frefl (w : World) : Fresh w w := Below.refl _ _
theorem fset {w a : World} (h : Fresh w a) {b o : Nat} (hp : w.heap.size ≤ b) (u : Value) : Fresh w (a.setCell ⟨b, o, none⟩ u) := h.setCell hp u
theorem fdrewN {w a : World} (h : Fresh w a) (n : Nat) : Fresh w (a.drewN n) := h.trans ⟨rfl, rfl, rfl, Nat.le_refl _, fun _ _ => rfl⟩
theorem fdrew {w a : World} (h : Fresh w a) : Fresh w a.drew := h.drew

/-- A variable that was boxed ahead of a call reads behind it as before. -/
theorem box {w w1 : World} {cs : Array Value} {t : TypeId} (h : Fresh (w.alloc (.cells cs t)) w1) (o : Nat) {v : Value} (hv : cs[o]? = some v) : w1.cell? ⟨w.heap.size, o, none⟩ = some v := by
  rw [h.cell (p := ⟨w.heap.size, o, none⟩) (by simp)]
  unfold World.cell?
  rw [heap_alloc_last]
  simpa using hv
theorem boxsize {w w1 : World} {o : Obj} (h : Fresh (w.alloc o) w1) : w.heap.size < w1.heap.size := by have := h.size; simp at this; omega
theorem fcell {w w1 : World} (h : Fresh w w1) {b o : Nat} {v : Value} (hb : b < w.heap.size) (hv : w.cell? ⟨b, o, none⟩ = some v) : w1.cell? ⟨b, o, none⟩ = some v := by
  rw [h.cell (p := ⟨b, o, none⟩) hb]; exact hv
/-- A cell that is there lies below the heap's size. -/
theorem fkeep {w w1 : World} (h : Fresh w w1) {b o : Nat} {v : Value} (hv : w.cell? ⟨b, o, none⟩ = some v) : w1.cell? ⟨b, o, none⟩ = some v :=
  fcell h (World.block_lt_of_cell? w ⟨b, o, none⟩ hv) hv
theorem ret_bool {a b : Bool} (h : a = b) : Ending.returned (.bool a) = .returned (.bool b) := by rw [h]
theorem ret_int {k : IntKind} {a b : Int} (h : a = b) : Ending.returned (.int k a) = .returned (.int k b) := by rw [h]

def inB (x a b : Int) : Bool := decide (a ≤ x ∧ x ≤ b)
theorem inB_t {x a b : Int} (h1 : a ≤ x) (h2 : x ≤ b) : inB x a b = true := by simp [inB, h1, h2]
theorem inB_f {x a b : Int} (h : ¬ (a ≤ x ∧ x ≤ b)) : inB x a b = false := by simp only [inB, decide_eq_false_iff_not]; exact h
theorem inB_iff {x a b : Int} : inB x a b = true ↔ a ≤ x ∧ x ≤ b := by simp [inB]

/-- The cells from an address on (no address is wanted where there are none). -/
def Cells (w : World) (p : Option Addr) (cs : List Value) : Prop := cs = [] ∨ ∃ b off, p = some ⟨b, off, none⟩ ∧ ∀ i v, cs[i]? = some v → w.cell? ⟨b, off + i, none⟩ = some v
theorem Cells.keep {w w' : World} {p : Option Addr} {cs : List Value} (h : Cells w p cs) (hb : Fresh w w') : Cells w' p cs := by
  rcases h with h | ⟨b, off, rfl, hc⟩
  · exact Or.inl h
  · exact Or.inr ⟨b, off, rfl, fun i v hv => fkeep hb (hc i v hv)⟩
theorem Cells.at {w : World} {p : Option Addr} {cs : List Value} (h : Cells w p cs) {k : Nat} (hk : k < cs.length) :
    ∃ b off, p = some ⟨b, off, none⟩ ∧ ∀ i v, cs[i]? = some v → w.cell? ⟨b, off + i, none⟩ = some v := by
  rcases h with h | h
  · subst h; simp at hk
  · exact h
theorem cells_nil (w : World) (p : Option Addr) : Cells w p [] := Or.inl rfl

abbrev iv (n : Int) : Value := .int .i64 n
/-- A slice of ints. -/
def Ints (w : World) (p : Option Addr) (xs : List Int) : Prop := Cells w p (xs.map iv)
theorem Ints.keep {w w' : World} {p : Option Addr} {xs : List Int} (h : Ints w p xs) (hb : Fresh w w') : Ints w' p xs := Cells.keep h hb
theorem Ints.at {w : World} {p : Option Addr} {xs : List Int} (h : Ints w p xs) {k : Nat} (hk : k < xs.length) :
    ∃ b off x, p = some ⟨b, off, none⟩ ∧ xs[k]? = some x ∧ w.cell? ⟨b, off + k, none⟩ = some (.int .i64 x) := by
  obtain ⟨b, off, rfl, hc⟩ := Cells.at h (k := k) (by simpa using hk)
  exact ⟨b, off, xs[k], rfl, by simp [hk], hc k _ (by simp [hk])⟩

/-- A row of the call's own: block g holds just these cells, free to be written. -/
def RowAt (w : World) (g : Nat) (t : TypeId) (cs : List Value) : Prop := w.heap[g]? = some (.cells cs.toArray t (0, 0))
theorem RowAt.lt {w : World} {g : Nat} {t : TypeId} {cs : List Value} (h : RowAt w g t cs) : g < w.heap.size := by
  unfold RowAt at h
  rcases Nat.lt_or_ge g w.heap.size with h' | h'
  · exact h'
  · rw [Array.getElem?_eq_none h'] at h; cases h
theorem RowAt.cell {w : World} {g : Nat} {t : TypeId} {cs : List Value} (h : RowAt w g t cs) {i : Nat} {v : Value} (hv : cs[i]? = some v) : w.cell? ⟨g, i, none⟩ = some v := by
  unfold World.cell?
  rw [h]
  simpa using hv
theorem RowAt.frozen {w : World} {g : Nat} {t : TypeId} {cs : List Value} (h : RowAt w g t cs) (i : Nat) : w.frozen? ⟨g, i, none⟩ = false := by
  unfold RowAt at h
  simp [World.frozen?, h]
theorem RowAt.keep {w w' : World} {g : Nat} {t : TypeId} {cs : List Value} (h : RowAt w g t cs) (hb : Fresh w w') : RowAt w' g t cs := by
  unfold RowAt; rw [hb.block g h.lt]; exact h
theorem RowAt.set {w : World} {g : Nat} {t : TypeId} {cs : List Value} (h : RowAt w g t cs) (i : Nat) (v : Value) : RowAt (w.setCell ⟨g, i, none⟩ v) g t (cs.set i v) := by
  unfold RowAt at *
  simp [World.setCell, Array.getElem?_modify, h]
theorem RowAt.setOther {w : World} {g : Nat} {t : TypeId} {cs : List Value} (h : RowAt w g t cs) {b o : Nat} (hne : g ≠ b) (v : Value) : RowAt (w.setCell ⟨b, o, none⟩ v) g t cs := by
  unfold RowAt at *
  rw [Below.heap_setCell _ _ _ _ hne]; exact h
theorem RowAt.alloc {w : World} {g : Nat} {t : TypeId} {cs : List Value} (h : RowAt w g t cs) (o : Obj) : RowAt (w.alloc o) g t cs := h.keep (fnew (frefl _) o)
theorem RowAt.cells {w : World} {g : Nat} {t : TypeId} {cs : List Value} (h : RowAt w g t cs) : Cells w (some ⟨g, 0, none⟩) cs :=
  Or.inr ⟨g, 0, rfl, fun i v hv => by rw [Nat.zero_add]; exact h.cell hv⟩
theorem RowAt.new (w : World) (t : TypeId) (cs : List Value) : RowAt (w.alloc (.cells cs.toArray t)) w.heap.size t cs := by
  unfold RowAt; exact heap_alloc_last _ _
theorem madeCells_one (z : Value) (n : Nat) : madeCells #[z] n = (List.replicate n z).toArray := by
  have := toList_madeCells_one z n
  rw [← this]
theorem set_take_repl {α : Type} (xs : List α) (z : α) (k : Nat) (x : α) (hx : xs[k]? = some x) : (xs.take k ++ List.replicate (xs.length - k) z).set k x = xs.take (k + 1) ++ List.replicate (xs.length - (k + 1)) z := by
  have hk : k < xs.length := by
    rcases Nat.lt_or_ge k xs.length with h | h
    · exact h
    · rw [List.getElem?_eq_none h] at hx; cases hx
  have e : xs.length - k = (xs.length - (k + 1)) + 1 := by omega
  rw [e, List.replicate_succ, List.set_append, if_neg (by simp; omega)]
  have hl : (xs.take k).length = k := by simp; omega
  rw [hl, Nat.sub_self, List.set_cons_zero, List.take_add_one, hx]
  simp
theorem get_take_repl {α : Type} (xs : List α) (z : α) (k : Nat) (hk : k < xs.length) : (xs.take k ++ List.replicate (xs.length - k) z)[k]? = some z := by
  rw [List.getElem?_append_right (by simp; omega)]
  have hl : (xs.take k).length = k := by simp; omega
  rw [hl, Nat.sub_self]
  have e : xs.length - k = (xs.length - (k + 1)) + 1 := by omega
  rw [e, List.replicate_succ]; rfl
theorem take_repl_end {α : Type} (xs : List α) (z : α) (k : Nat) (hk : xs.length ≤ k) : xs.take k ++ List.replicate (xs.length - k) z = xs := by
  rw [List.take_of_length_le hk, Nat.sub_eq_zero_of_le hk, List.replicate_zero, List.append_nil]
theorem take_eq_step {α : Type} {xs ys : List α} {k : Nat} {x y : α} (h : xs.take k = ys.take k) (hx : xs[k]? = some x) (hy : ys[k]? = some y) (e : x = y) : xs.take (k + 1) = ys.take (k + 1) := by
  rw [List.take_add_one, List.take_add_one, h, hx, hy, e]
theorem ne_of_get {α : Type} {xs ys : List α} {k : Nat} {x y : α} (hx : xs[k]? = some x) (hy : ys[k]? = some y) (e : x ≠ y) : xs ≠ ys := by
  intro h; subst h; rw [hx] at hy; exact e (Option.some.inj hy)
theorem eq_of_take {α : Type} {xs ys : List α} {k : Nat} (h : xs.take k = ys.take k) (hx : xs.length ≤ k) (hy : ys.length ≤ k) : xs = ys := by
  rw [List.take_of_length_le hx, List.take_of_length_le hy] at h; exact h

/-- A slice of the call's own: nil and empty, or the head of a row of its own, free to be written. -/
def Own (w : World) (base : Nat) (t : TypeId) (p : Option Addr) (cs : List Value) : Prop := (p = none ∧ cs = []) ∨ ∃ g sp, p = some ⟨g, 0, none⟩ ∧ base ≤ g ∧ RowAt w g t (cs ++ sp)
theorem Own.keep {w w' : World} {base : Nat} {t : TypeId} {p : Option Addr} {cs : List Value} (h : Own w base t p cs) (hb : Fresh w w') : Own w' base t p cs := by
  rcases h with h | ⟨g, sp, hp, hg, hr⟩
  · exact Or.inl h
  · exact Or.inr ⟨g, sp, hp, hg, hr.keep hb⟩
theorem Own.cells {w : World} {base : Nat} {t : TypeId} {p : Option Addr} {cs : List Value} (h : Own w base t p cs) : Cells w p cs := by
  rcases h with ⟨_, h⟩ | ⟨g, sp, hp, hg, hr⟩
  · exact Or.inl h
  · refine Or.inr ⟨g, 0, hp, fun i v hv => ?_⟩
    rw [Nat.zero_add]
    refine hr.cell ?_
    rw [List.getElem?_append_left]
    · exact hv
    · rcases Nat.lt_or_ge i cs.length with h | h
      · exact h
      · rw [List.getElem?_eq_none h] at hv; cases hv
theorem Own.mono {w : World} {base base' : Nat} {t : TypeId} {p : Option Addr} {cs : List Value} (h : Own w base t p cs) (hb : base' ≤ base) : Own w base' t p cs := by
  rcases h with h | ⟨g, sp, hp, hg, hr⟩
  · exact Or.inl h
  · exact Or.inr ⟨g, sp, hp, by omega, hr⟩
theorem own_of_row {w : World} {base : Nat} {t : TypeId} {v : Value} {n : Nat} {xs : List Value} {size : Nat} (h : w.ownsRow base t size v n xs) : ∃ p cap, v = .slice p n cap ∧ Own w base t p xs := by
  obtain ⟨hl, ⟨rfl, rfl⟩ | ⟨g, cap, cur, rfl, hg, hh, hn, hc, hs, ht⟩⟩ := h
  · exact ⟨none, 0, rfl, Or.inl ⟨rfl, List.eq_nil_of_length_eq_zero (by simpa using hl)⟩⟩
  · refine ⟨_, cap, rfl, Or.inr ⟨g, cur.toList.drop (n * size), rfl, hg, ?_⟩⟩
    unfold RowAt
    rw [← ht, List.take_append_drop]
    exact hh
theorem ownsRow_keep {w w' : World} {base : Nat} {t : TypeId} {v : Value} {n : Nat} {xs : List Value} {size : Nat} (h : w.ownsRow base t size v n xs) (hb : Fresh w w') : w'.ownsRow base t size v n xs := by
  obtain ⟨hl, h | ⟨g, cap, cur, hv, hg, hh, r⟩⟩ := h
  · exact ⟨hl, Or.inl h⟩
  · refine ⟨hl, Or.inr ⟨g, cap, cur, hv, hg, ?_, r⟩⟩
    have hlt : g < w.heap.size := by
      rcases Nat.lt_or_ge g w.heap.size with h' | h'
      · exact h'
      · rw [Array.getElem?_eq_none h'] at hh; cases hh
    rw [hb.block g hlt]; exact hh
theorem own_block {w : World} {base : Nat} {t : TypeId} {v : Value} {n : Nat} {xs : List Value} {size : Nat} (h : w.ownsRow base t size v n xs) : ∀ k, v.ownBlock = some k → base ≤ k := fun k hk => (h.lt k hk).1
/-- Behind an append to a row of the call's own. -/
theorem fgrown {w a a' : World} {v : Value} (h : Fresh w a) (hg : a.grownBy a' v.ownBlock) (hr : ∀ k, v.ownBlock = some k → w.heap.size ≤ k) : Fresh w a' := h.grown hg h.size hr
theorem one_new {w : World} {v : Value} {t : TypeId} : ∀ (j : Nat) (u : Value), [v][j]? = some u → (w.alloc (.cells #[v] t)).cell? ((⟨w.heap.size, 0, none⟩ : Addr).add j) = some u := fun j u h => by
  match j, h with
  | 0, h => simp at h; subst h; simp [Addr.add]

theorem boxrow {w w1 : World} {cs : List Value} {t : TypeId} (h : Fresh (w.alloc (.cells cs.toArray t)) w1) : RowAt w1 w.heap.size t cs := (RowAt.new w t cs).keep h
/-- A variable that was laid ahead of a call may still be written behind it. -/
theorem boxf {w w1 : World} {cs : Array Value} {t : TypeId} (h : Fresh (w.alloc (.cells cs t)) w1) (o : Nat) : w1.frozen? ⟨w.heap.size, o, none⟩ = false := by
  have := boxrow (cs := cs.toList) (t := t) (w := w) (w1 := w1) (by simpa using h)
  exact this.frozen o
theorem Ints.at0 {w : World} {p : Option Addr} {x : Int} {xs : List Int} (h : Ints w p (x :: xs)) : ∃ b off, p = some ⟨b, off, none⟩ ∧ w.cell? ⟨b, off, none⟩ = some (.int .i64 x) := by
  obtain ⟨b, off, y, hp, hy, hc⟩ := h.at (k := 0) (by simp)
  simp at hy
  subst hy
  exact ⟨b, off, hp, hc⟩

theorem Own.setOther {w : World} {base : Nat} {t : TypeId} {p : Option Addr} {cs : List Value} (h : Own w base t p cs) {b o : Nat} (hb : b < base) (v : Value) : Own (w.setCell ⟨b, o, none⟩ v) base t p cs := by
  rcases h with h | ⟨g, sp, hp, hg, hr⟩
  · exact Or.inl h
  · exact Or.inr ⟨g, sp, hp, hg, hr.setOther (by omega) v⟩

theorem flat_one {α β : Type} (f : α → β) (l : List α) : l.map f = l.flatMap fun x => [f x] := by
  induction l with
  | nil => rfl
  | cons a l ih => rw [List.map_cons, List.flatMap_cons, ih]; rfl
theorem flat_len {α : Type} (f : α → List Value) (n : Nat) (hf : ∀ a, (f a).length = n) (l : List α) : (l.flatMap f).length = l.length * n := by
  induction l with
  | nil => simp
  | cons a l ih => rw [List.flatMap_cons, List.length_append, ih, hf, List.length_cons, Nat.add_mul, Nat.one_mul, Nat.add_comm]
theorem flat_get {α : Type} (f : α → List Value) (n : Nat) (hf : ∀ a, (f a).length = n) (l : List α) (i r : Nat) (hr : r < n) (a : α) (ha : l[i]? = some a) : (l.flatMap f)[i * n + r]? = (f a)[r]? := by
  induction l generalizing i with
  | nil => simp at ha
  | cons b l ih =>
    rw [List.flatMap_cons]
    cases i with
    | zero => simp at ha; subst ha; rw [Nat.zero_mul, Nat.zero_add, List.getElem?_append_left (by rw [hf]; exact hr)]
    | succ i =>
      have e : (i + 1) * n + r = n + (i * n + r) := by rw [Nat.add_mul, Nat.one_mul]; omega
      rw [e, List.getElem?_append_right (by rw [hf]; omega), hf, Nat.add_sub_cancel_left]
      exact ih i (by simpa using ha)


/-- A world in which nothing that was there has turned: the class of worlds for a statement whose order is open and whose callees make memory. -/
structure After (w : World) where
  w' : World
  h : Fresh w w'
instance (w : World) : Nonempty (After w) := ⟨⟨w, frefl w⟩⟩
theorem wp_region_after {P : Program} {id : Nat} {Q : Exit → Act → World → Prop} {a : Act} {w : World} {l : List Oper} (hm : P.follows .mixedOrders = true) (hB : Region.lexB .any l.toArray = true)
    (h : wpQuiet P l.toArray (fun w' => ∃ x : After w, w' = x.w') (fun a' => ∀ w', (∃ x : After w, w' = x.w') → Q .normal a' w') l a) : (Code.region id l.toArray true).wp P Q a w :=
  wp_region_quiet (C := fun w' => ∃ x : After w, w' = x.w') hm hB ⟨⟨_, fdrew (frefl _)⟩, rfl⟩ (by simpa using h)
theorem after_call {P : Program} {f : FuncId} {args : Array Value} {w : World} {x : After w} {v : Value} (h : Calls P f args x.w' fun e w' => e = .returned v ∧ Fresh x.w' w') :
    Calls P f args x.w' fun e w'' => e = .returned v ∧ ∃ y : After w, w'' = y.w' := h.mono fun _ w' ⟨he, hf⟩ => ⟨he, ⟨w', fstep x.h hf⟩, rfl⟩
theorem after_same {P : Program} {f : FuncId} {args : Array Value} {w : World} {x : After w} {v : Value} (h : Calls P f args x.w' fun e w' => e = .returned v ∧ x.w' = w') :
    Calls P f args x.w' fun e w'' => e = .returned v ∧ ∃ y : After w, w'' = y.w' := h.mono fun _ _w' ⟨he, hf⟩ => ⟨he, x, hf.symm⟩
theorem akeep {w : World} {b o : Nat} {v : Value} (hv : w.cell? ⟨b, o, none⟩ = some v) (x : After w) : x.w'.cell? ⟨b, o, none⟩ = some v := fkeep x.h hv

theorem all_step {α : Type} {f : α → Bool} {xs : List α} {k : Nat} {x : α} (h : (xs.take k).all f = true) (hx : xs[k]? = some x) (hf : f x = true) : (xs.take (k + 1)).all f = true := by
  rw [List.take_add_one, hx]; simp only [Option.toList_some, List.all_append, h, List.all_cons, hf, List.all_nil, Bool.and_self]
theorem all_false {α : Type} {f : α → Bool} {xs : List α} {k : Nat} {x : α} (hx : xs[k]? = some x) (hf : f x = false) : xs.all f = false := by
  rw [List.all_eq_false]; exact ⟨x, List.mem_of_getElem? hx, by simp [hf]⟩
end Go.Proofs.YtjhaoonacjebpaaGreatDoor

/- Contracts of the tests on ranges. -/
namespace Go.Proofs.YtjhaoonacjebpaaGreatDoor
open Go.RowKit

set_option maxHeartbeats 400000 in
theorem l1In_any (x a b : Int) (w : World) :
    Calls Tryz.prog 79 #[.int .i64 x, .int .i64 a, .int .i64 b] w fun e w' => e = .returned (.bool (inB x a b)) ∧ w = w' := by
  by_cases h1 : a ≤ x
  · by_cases h2 : x ≤ b
    · go_enter Tryz.func79, Tryz.ntmps79
      go_wp2
      go_ret
      exact ⟨by rw [inB_t h1 h2]; rfl, rfl⟩
    · go_enter Tryz.func79, Tryz.ntmps79
      go_wp2
      go_ret
      exact ⟨by rw [inB_f (by omega)]; rfl, rfl⟩
  · go_enter Tryz.func79, Tryz.ntmps79
    go_wp2
    go_ret
    exact ⟨by rw [inB_f (by omega)]; rfl, rfl⟩

set_option maxHeartbeats 400000 in
theorem within_any (x a b : Int) (w : World) :
    Calls Tryz.prog 96 #[.int .i64 x, .int .i64 a, .int .i64 b] w fun e w' => e = .returned (.bool (inB x a b)) ∧ w = w' := by
  by_cases h1 : a ≤ x
  · by_cases h2 : x ≤ b
    · go_enter Tryz.func96, Tryz.ntmps96
      go_wp2
      go_ret
      exact ⟨by rw [inB_t h1 h2]; rfl, rfl⟩
    · go_enter Tryz.func96, Tryz.ntmps96
      go_wp2
      go_ret
      exact ⟨by rw [inB_f (by omega)]; rfl, rfl⟩
  · go_enter Tryz.func96, Tryz.ntmps96
    go_wp2
    go_ret
    exact ⟨by rw [inB_f (by omega)]; rfl, rfl⟩


end Go.Proofs.YtjhaoonacjebpaaGreatDoor

/- Rows being filled, and made slices of any element (no function of the program). -/
namespace Go.Proofs.YtjhaoonacjebpaaGreatDoor
open Go.RowKit

/-- n times the cells of one zero element. -/
def zs (z : List Value) (n : Nat) : List Value := (List.replicate n ()).flatMap fun _ => z
theorem zs_succ (z : List Value) (n : Nat) : zs z (n + 1) = z ++ zs z n := by unfold zs; rw [List.replicate_succ, List.flatMap_cons]
theorem zs_zero (z : List Value) : zs z 0 = [] := rfl
theorem zs_len (z : List Value) (n : Nat) : (zs z n).length = n * z.length := by unfold zs; rw [flat_len _ z.length (fun _ => rfl)]; simp
theorem zs_get (z : List Value) (n i r : Nat) (hi : i < n) (hr : r < z.length) : (zs z n)[i * z.length + r]? = z[r]? := by
  unfold zs; exact flat_get (fun _ => z) z.length (fun _ => rfl) _ i r hr () (by simp [hi])
theorem madeCells_zs (z : List Value) (n : Nat) (hz : 0 < z.length) : madeCells z.toArray (n * z.length) = (zs z n).toArray := by
  apply Array.ext
  · rw [size_madeCells]; simp [zs_len]
  · intro i h1 h2
    rw [size_madeCells] at h1
    have hin : i / z.length < n := (Nat.div_lt_iff_lt_mul hz).2 h1
    have hrn : i % z.length < z.length := Nat.mod_lt _ hz
    have hdm : i / z.length * z.length + i % z.length = i := by rw [Nat.mul_comm]; exact Nat.div_add_mod i _
    have h := zs_get z n _ _ hin hrn
    rw [hdm] at h
    have h2' : i < (zs z n).length := by simpa using h2
    rw [List.getElem?_eq_getElem h2', List.getElem?_eq_getElem hrn, Option.some.injEq] at h
    simp [madeCells, h]
    rw [List.getElem?_eq_getElem hrn]; rfl
/-- Cells laid one after the other. -/
def setL : List Value → Nat → List Value → List Value
  | cs, _, [] => cs
  | cs, i, v :: vs => setL (cs.set i v) (i + 1) vs
theorem setL_mid (vs : List Value) : ∀ (X z R : List Value), z.length = vs.length → setL (X ++ (z ++ R)) X.length vs = X ++ (vs ++ R) := by
  induction vs with
  | nil => intro X z R h; have : z = [] := List.eq_nil_of_length_eq_zero h; subst this; rfl
  | cons v vs ih =>
    intro X z R h
    match z, h with
    | a :: z, h =>
      unfold setL
      rw [List.set_append, if_neg (by omega), Nat.sub_self, List.cons_append, List.set_cons_zero]
      have := ih (X ++ [v]) z R (by simpa using h)
      simpa using this
/-- A row in which the first k of l lie, noughts behind them. -/
def fillR {α : Type} (f : α → List Value) (z : List Value) (l : List α) (k : Nat) : List Value := (l.take k).flatMap f ++ zs z (l.length - k)
theorem fillR_zero {α : Type} (f : α → List Value) (z : List Value) (l : List α) : fillR f z l 0 = zs z l.length := by unfold fillR; simp
theorem fillR_end {α : Type} (f : α → List Value) (z : List Value) (l : List α) (k : Nat) (h : l.length ≤ k) : fillR f z l k = l.flatMap f := by
  unfold fillR; rw [List.take_of_length_le h, Nat.sub_eq_zero_of_le h, zs_zero, List.append_nil]
theorem fillR_get {α : Type} (f : α → List Value) (z : List Value) (l : List α) (k r : Nat) (hf : ∀ a, (f a).length = z.length) (hk : k < l.length) (hr : r < z.length) : (fillR f z l k)[k * z.length + r]? = z[r]? := by
  unfold fillR
  have hl : ((l.take k).flatMap f).length = k * z.length := by rw [flat_len f z.length hf, List.length_take]; congr 1; omega
  rw [List.getElem?_append_right (by omega), hl, Nat.add_sub_cancel_left]
  have := zs_get z (l.length - k) 0 r (by omega) hr
  rwa [Nat.zero_mul, Nat.zero_add] at this
theorem fillR_set {α : Type} (f : α → List Value) (z : List Value) (l : List α) (k : Nat) (a : α) (hf : ∀ a, (f a).length = z.length) (hx : l[k]? = some a) : setL (fillR f z l k) (k * z.length) (f a) = fillR f z l (k + 1) := by
  have hk : k < l.length := by
    rcases Nat.lt_or_ge k l.length with h | h
    · exact h
    · rw [List.getElem?_eq_none h] at hx; cases hx
  have hl : ((l.take k).flatMap f).length = k * z.length := by rw [flat_len f z.length hf, List.length_take]; congr 1; omega
  unfold fillR
  have e : l.length - k = (l.length - (k + 1)) + 1 := by omega
  rw [e, zs_succ, ← hl, setL_mid (f a) _ z _ (by rw [hf])]
  rw [List.take_add_one, hx]
  simp
theorem mkRow {T E : TypeId} {zv : Value} {z : List Value} {bytes : Nat} (hu : Tryz.prog.underlying T = some (.slice E)) (hinfo : (Tryz.prog.info? E).map (fun i => (i.zero, i.size, i.bytes)) = some (some zv, z.length, bytes)) (hz : zv.cells = z.toArray) (h0 : 0 < z.length) (n : Nat)
    (hn : bytes * n ≤ 281474976710656) (hm : n ≤ 9223372036854775807) (u : World) :
    (Instr.makeSlice T (.int .i64 (n : Int)) (.int .i64 (n : Int))).run Tryz.prog u = .ok (.slice (some ⟨u.heap.size, 0, none⟩) n n) (u.alloc (.cells ((zs z n).toArray) E)) := by
  obtain ⟨i0, hi, hz0, hz1, hz2⟩ := info_parts hinfo
  have h := run_make (P := Tryz.prog) u T E i0 _ hu hi hz0 .i64 .i64 n n (by omega) (Int.le_refl _) (by rw [hz2, ← Int.natCast_mul]; omega) (by omega)
  rw [Int.toNat_natCast, hz1, hz, madeCells_zs z n h0] at h
  exact h
end Go.Proofs.YtjhaoonacjebpaaGreatDoor

/- Contracts: copies of and comparisons between slices of ints; appending. -/
namespace Go.Proofs.YtjhaoonacjebpaaGreatDoor
open Go.RowKit

theorem infoInt : (Tryz.prog.info? 3).map (fun i => (i.zero, i.size, i.bytes)) = some (some (.int .i64 0), 1, 8) := by kernel_rfl

theorem mkInts (n : Nat) (hn : n * 8 ≤ 281474976710656) (u : World) : (Instr.makeSlice 52 (.int .i64 (n : Int)) (.int .i64 (n : Int))).run Tryz.prog u =
      .ok (.slice (some ⟨u.heap.size, 0, none⟩) n n) (u.alloc (.cells ((List.replicate n (iv 0)).toArray) 3)) := by
  obtain ⟨i0, hi, hz0, hz1, hz2⟩ := info_parts infoInt
  have h := run_make (P := Tryz.prog) u 52 3 i0 (.int .i64 0) Tryz.underlying52 hi hz0 .i64 .i64 n n (by omega) (Int.le_refl _) (by rw [hz2]; omega) (by omega)
  rw [Int.toNat_natCast, hz1, Nat.mul_one] at h
  rw [← madeCells_one]
  simpa [Value.cells] using h

/-- One int appended to a row of the call's own. -/
theorem wpList_app_ints {ops : Array Oper} {rest : List Oper} {o : Oper} {a : Act} {Q : Exit → Act → World → Prop} (w0 w1 : World) (v : Value) (xs : List Int) (x : Int) (hgd : o.guard = none) (s t : Operand)
    (ho : o.op = .call { callee := .builtin .append, args := #[s, t], argTypes := #[52, 52] }) (hs : a.eval s = v) (hown : w1.ownsRow w0.heap.size 3 1 v xs.length (xs.map iv))
    (hx : a.eval t = .slice (some ⟨w1.heap.size, 0, none⟩) 1 1) (hn : xs.length ≤ 1099511627776) (hf : Fresh w0 w1)
    (h : ∀ v' w', w'.ownsRow w0.heap.size 3 1 v' (xs ++ [x]).length ((xs ++ [x]).map iv) → Fresh w0 w' → wpList Tryz.prog ops Q rest (a.put o.dst v') w') :
    wpList Tryz.prog ops Q (o :: rest) a (w1.alloc (.cells #[.int .i64 x] 3)) := by
  obtain ⟨i0, hi, hz0, hz1, hz2⟩ := info_parts infoInt
  refine wpList_append_own _ hgd s t 52 ho w0.heap.size 3 i0 (.int .i64 0) 1 8 Tryz.underlying52 hi hz0 hz1 hz2 rfl (by decide) v xs.length (xs.map iv) hs (hown.alloc _) ⟨w1.heap.size, 0, none⟩ 1 1 [iv x] hx rfl one_new
    (by intro u hu; simp at hu; subst hu; rfl) (by unfold maxLen; omega) (by omega) (Nat.le_trans hf.size (by simp)) ?_
  intro v' w' hown' hgrow _
  refine h v' w' ?_ (fgrown (fnew hf _) hgrow (own_block hown))
  rw [List.map_append, List.length_append]
  exact hown'

/-- The call hands back a slice of ints of its own. -/
def OutInts (w : World) (L : List Int) (e : Ending) (w' : World) : Prop := ∃ p cap, e = .returned (.slice p L.length cap) ∧ Own w' w.heap.size 3 p (L.map iv) ∧ Fresh w w'
/-- The same, and a bool. -/
def OutIntsB (w : World) (L : List Int) (b : Bool) (e : Ending) (w' : World) : Prop := ∃ p cap, e = .returned (.tuple #[.slice p L.length cap, .bool b]) ∧ Own w' w.heap.size 3 p (L.map iv) ∧ Fresh w w'
theorem Own.ints {w : World} {base : Nat} {t : TypeId} {p : Option Addr} {L : List Int} (h : Own w base t p (L.map iv)) : Ints w p L := h.cells

set_option maxHeartbeats 400000 in
theorem toIntS_any (p : Option Addr) (cap : Nat) (xs : List Int) (w : World) (hI : Ints w p xs) (hn : xs.length ≤ 1048576) :
    Calls Tryz.prog 124 #[.slice p xs.length cap] w fun e w' =>
      e = .returned (.slice (some ⟨w.heap.size, 0, none⟩) xs.length xs.length) ∧ RowAt w' w.heap.size 3 (xs.map iv) ∧ Fresh w w' := by
  have hmk := mkInts xs.length (by omega)
  go_enter Tryz.func124, Tryz.ntmps124
  go_wp2
  go_loopw [4] (fun i wr => ∃ k : Nat, k ≤ xs.length ∧ i = .int .i64 k ∧ RowAt wr w.heap.size 3 ((xs.map iv).take k ++ List.replicate ((xs.map iv).length - k) (iv 0)) ∧ Fresh w wr)
    (fun i _ => xs.length - (intOf i).toNat)
  case atStart => exact ⟨0, Nat.zero_le _, rfl, by simpa using RowAt.new w 3 (List.replicate xs.length (iv 0)), fnew (frefl _) _⟩
  case round =>
    obtain ⟨k, hk, rfl, hrow, hf⟩ := hrel
    by_cases hlt : k < xs.length
    · obtain ⟨b, off, x, rfl, hx, hc0⟩ := hI.at hlt
      have hc := fkeep hf hc0
      have hcell := hrow.cell (i := k) (v := iv 0) (get_take_repl _ _ _ (by simpa using hlt))
      have hfr := hrow.frozen k
      have HX := Lib.hid hx
      have HR := Lib.hid hrow
      have HF := Lib.hid hf
      clear hx hc0 hI hrow hf
      go_wp2
      go_roundw
      case rel =>
        refine ⟨k + 1, by omega, by go_num, ?_, fset HF.out (Nat.le_refl _) _⟩
        have := HR.out.set k (iv x)
        rw [set_take_repl _ _ _ (iv x) (by rw [List.getElem?_map, HX.out]; rfl)] at this
        exact this
      case measure => simp [intOf]; omega
    · have hkn : k = xs.length := by omega
      subst hkn
      have HR := Lib.hid hrow
      have HF := Lib.hid hf
      clear hrow hf
      go_wp2
      go_ret
      refine ⟨rfl, ?_, HF.out⟩
      have := HR.out
      rw [take_repl_end _ _ _ (by simp)] at this
      exact this

def eqInts (xs ys : List Int) : Bool := decide (xs = ys)
set_option maxHeartbeats 400000 in
theorem eqIntS_any (p q : Option Addr) (c d : Nat) (xs ys : List Int) (w : World) (hx : Ints w p xs) (hy : Ints w q ys) (hn : xs.length ≤ 1099511627776) :
    Calls Tryz.prog 137 #[.slice p xs.length c, .slice q ys.length d] w fun e w' => e = .returned (.bool (eqInts xs ys)) ∧ Fresh w w' := by
  by_cases hl : xs.length = ys.length
  · have hl' : (((xs.length : Int) != (ys.length : Int))) = false := by rw [hl]; simp
    go_enter Tryz.func137, Tryz.ntmps137
    have HL := Lib.hid hl
    clear hl
    go_wp2
    go_loopw [5] (fun i wr => ∃ k : Nat, k ≤ xs.length ∧ i = .int .i64 k ∧ xs.take k = ys.take k ∧ Fresh w wr) (fun i _ => xs.length - (intOf i).toNat)
    case atStart => exact ⟨0, Nat.zero_le _, rfl, rfl, frefl _⟩
    case round =>
      obtain ⟨k, hk, rfl, he, hf⟩ := hrel
      by_cases hlt : k < xs.length
      · obtain ⟨b, off, x, rfl, ex, hc0⟩ := hx.at hlt
        obtain ⟨b', off', y, rfl, ey, hc0'⟩ := hy.at (k := k) (by rw [← HL.out]; exact hlt)
        have hc := fkeep hf hc0
        have hc' := fkeep hf hc0'
        have HX := Lib.hid ex
        have HY := Lib.hid ey
        have HE := Lib.hid he
        have HF := Lib.hid hf
        clear ex ey he hf hc0 hc0' hx hy
        have h1 : (k : Int) < (xs.length : Int) := by omega
        have h2 : (k : Int) < (ys.length : Int) := by rw [← HL.out]; omega
        by_cases hxy : x = y
        · have HXY := Lib.hid hxy
          have hb : (x != y) = false := by rw [hxy]; simp
          clear hxy
          go_wp2
          go_quiet (fail)
          go_wp2
          go_roundw
          case rel => exact ⟨k + 1, by omega, by go_num, take_eq_step HE.out HX.out HY.out HXY.out, fdrewN HF.out _⟩
          case measure => simp [intOf]; omega
        · have HXY := Lib.hid hxy
          have hb : (x != y) = true := by simpa using hxy
          clear hxy
          go_wp2
          go_quiet (fail)
          go_wp2
          go_ret
          exact ⟨ret_bool (by simp [eqInts, ne_of_get HX.out HY.out HXY.out]), fdrewN HF.out _⟩
      · have hkn : k = xs.length := by omega
        subst hkn
        have HE := Lib.hid he
        have HF := Lib.hid hf
        clear he hf
        go_wp2
        go_ret
        exact ⟨ret_bool (by simp [eqInts, eq_of_take HE.out (Nat.le_refl _) (Nat.le_of_eq HL.out.symm)]), HF.out⟩
  · have hl' : (((xs.length : Int) != (ys.length : Int))) = true := by simpa [bne_iff_ne] using fun h => hl (by omega)
    have hne : xs ≠ ys := fun h => hl (by rw [h])
    have HN := Lib.hid hne
    clear hne hl
    go_enter Tryz.func137, Tryz.ntmps137
    go_wp2
    go_ret
    exact ⟨ret_bool (by simp [eqInts, HN.out]), frefl _⟩

end Go.Proofs.YtjhaoonacjebpaaGreatDoor

/- Contracts of the functions on blocks. -/
namespace Go.Proofs.YtjhaoonacjebpaaGreatDoor
open Go.RowKit

/-- A block is good. -/
def goodB (f c : Int) : Bool := inB f 0 23 && inB c 1 (24 - f)
theorem goodB_iff {f c : Int} : goodB f c = true ↔ 0 ≤ f ∧ 1 ≤ c ∧ f + c ≤ 24 := by simp only [goodB, inB, Bool.and_eq_true, decide_eq_true_eq]; omega

set_option maxHeartbeats 400000 in
theorem l8Good_any (f c : Int) (w : World) :
    Calls Tryz.prog 85 #[.agg #[.int .i64 f, .int .i64 c]] w fun e w' => e = .returned (.bool (goodB f c)) ∧ Fresh w w' := by
  by_cases h1 : 0 ≤ f ∧ f ≤ 23
  · obtain ⟨ha, hb⟩ := h1
    have e1 : inB f 0 23 = true := inB_t ha hb
    go_enter Tryz.func85, Tryz.ntmps85
    go_wp2_with (go_at_call 79; refine (l1In_any _ _ _ _).mono ?_; rintro e w' ⟨rfl, rfl⟩)
    go_ret
    exact ⟨by simp [goodB, e1], (Below.refl _ _).alloc (Nat.le_refl _) _⟩
  · have e1 : inB f 0 23 = false := inB_f h1
    go_enter Tryz.func85, Tryz.ntmps85
    go_wp2_with (go_at_call 79; refine (l1In_any _ _ _ _).mono ?_; rintro e w' ⟨rfl, rfl⟩)
    go_ret
    exact ⟨by simp [goodB, e1], (Below.refl _ _).alloc (Nat.le_refl _) _⟩

set_option maxHeartbeats 400000 in
theorem implIsValidBlock_any (f c : Int) (w : World) :
    Calls Tryz.prog 98 #[.agg #[.int .i64 f, .int .i64 c]] w fun e w' => e = .returned (.bool (goodB f c)) ∧ Fresh w w' := by
  by_cases h1 : 0 ≤ f
  · by_cases h2 : 1 ≤ c ∧ c ≤ 24
    · obtain ⟨ha, hb⟩ := h2
      have e2 : inB c 1 24 = true := inB_t ha hb
      by_cases h3 : f ≤ 24 - c
      · have e3 : goodB f c = true := goodB_iff.2 ⟨h1, ha, by omega⟩
        go_enter Tryz.func98, Tryz.ntmps98
        go_wp2_with (go_at_call 96; refine (within_any _ _ _ _).mono ?_; rintro e w' ⟨rfl, rfl⟩)
        go_ret
        exact ⟨ret_bool (by first | rfl | (rw [e3]; first | rfl | (simp; done) | (simp; omega)) | (simp; omega)), fnew (frefl _) _⟩
      · have e3 : goodB f c = false := by rw [Bool.eq_false_iff, ne_eq, goodB_iff]; omega
        go_enter Tryz.func98, Tryz.ntmps98
        go_wp2_with (go_at_call 96; refine (within_any _ _ _ _).mono ?_; rintro e w' ⟨rfl, rfl⟩)
        go_ret
        exact ⟨ret_bool (by first | rfl | (rw [e3]; first | rfl | (simp; done) | (simp; omega)) | (simp; omega)), fnew (frefl _) _⟩
    · have e2 : inB c 1 24 = false := inB_f h2
      have e3 : goodB f c = false := by rw [Bool.eq_false_iff, ne_eq, goodB_iff]; omega
      go_enter Tryz.func98, Tryz.ntmps98
      go_wp2_with (go_at_call 96; refine (within_any _ _ _ _).mono ?_; rintro e w' ⟨rfl, rfl⟩)
      go_ret
      exact ⟨ret_bool (by first | rfl | (rw [e3]; first | rfl | (simp; done) | (simp; omega)) | (simp; omega)), fnew (frefl _) _⟩
  · have e3 : goodB f c = false := by rw [Bool.eq_false_iff, ne_eq, goodB_iff]; omega
    go_enter Tryz.func98, Tryz.ntmps98
    go_wp2_with (go_at_call 96; refine (within_any _ _ _ _).mono ?_; rintro e w' ⟨rfl, rfl⟩)
    go_ret
    exact ⟨ret_bool (by first | rfl | (rw [e3]; first | rfl | (simp; done) | (simp; omega)) | (simp; omega)), fnew (frefl _) _⟩

set_option maxHeartbeats 400000 in
theorem toBlock_any (f c : Int) (w : World) :
    Calls Tryz.prog 93 #[.agg #[.int .i64 f, .int .i64 c]] w fun e w' => e = .returned (.agg #[.int .i64 f, .int .i64 c]) ∧ Fresh w w' := by
  go_enter Tryz.func93, Tryz.ntmps93
  go_wp2
  refine bodyPost_ret (v := .agg #[.int .i64 f, .int .i64 c]) (by simp [results, Tryz.results93, go_sem]) rfl ⟨rfl, ?_⟩
  repeat (first | exact frefl _ | apply fnew | (refine fset ?_ (by simp) _))


end Go.Proofs.YtjhaoonacjebpaaGreatDoor

/- Contracts: the mask of a block. -/
namespace Go.Proofs.YtjhaoonacjebpaaGreatDoor
open Go.RowKit

/-- The mask of a block, as the machine reckons it. -/
def mkF (f c : Int) : Int := wrap64 (wrap64 (wrap64 (2 ^ c.toNat) - 1) * 2 ^ f.toNat)
theorem pow2_le {n : Nat} (h : n ≤ 24) : (2 : Int) ^ n ≤ 16777216 := by
  have e : ((2 ^ n : Nat) : Int) = (2 : Int) ^ n := by rw [Int.natCast_pow]; rfl
  have h1 : 2 ^ n ≤ 2 ^ 24 := Nat.pow_le_pow_right (by omega) h
  have h2 : (2 : Nat) ^ 24 = 16777216 := by decide
  omega
theorem pow2_ge {n : Nat} (h : 1 ≤ n) : (2 : Int) ≤ 2 ^ n := by
  have e : ((2 ^ n : Nat) : Int) = (2 : Int) ^ n := by rw [Int.natCast_pow]; rfl
  have h1 : 2 ^ 1 ≤ 2 ^ n := Nat.pow_le_pow_right (by omega) h
  omega
theorem pow2_pos (n : Nat) : (1 : Int) ≤ 2 ^ n := by
  have e : ((2 ^ n : Nat) : Int) = (2 : Int) ^ n := by rw [Int.natCast_pow]; rfl
  have h1 : 1 ≤ 2 ^ n := Nat.one_le_two_pow
  omega
theorem mkF_val {f c : Int} (h1 : 0 ≤ f) (h2 : 1 ≤ c) (h3 : f + c ≤ 24) : mkF f c = (2 ^ c.toNat - 1) * 2 ^ f.toNat ∧ 1 ≤ mkF f c ∧ mkF f c ≤ 16777215 := by
  have hab : (2 : Int) ^ c.toNat * 2 ^ f.toNat ≤ 16777216 := by
    rw [← Int.pow_add]
    exact pow2_le (by omega)
  have hb : (1 : Int) ≤ 2 ^ f.toNat := pow2_pos _
  have ha : (2 : Int) ≤ 2 ^ c.toNat := pow2_ge (by omega)
  have ha' : (2 : Int) ^ c.toNat ≤ 16777216 := pow2_le (by omega)
  have e1 : wrap64 ((2 : Int) ^ c.toNat) = 2 ^ c.toNat := by unfold wrap64; omega
  have e2 : wrap64 ((2 : Int) ^ c.toNat - 1) = 2 ^ c.toNat - 1 := by unfold wrap64; omega
  have e3 : ((2 : Int) ^ c.toNat - 1) * 2 ^ f.toNat = 2 ^ c.toNat * 2 ^ f.toNat - 2 ^ f.toNat := by rw [Int.sub_mul, Int.one_mul]
  have e5 : (2 : Int) ^ f.toNat * 2 ≤ 2 ^ c.toNat * 2 ^ f.toNat := by
    rw [Int.mul_comm]; exact Int.mul_le_mul_of_nonneg_right ha (by omega)
  have e4 : wrap64 (((2 : Int) ^ c.toNat - 1) * 2 ^ f.toNat) = (2 ^ c.toNat - 1) * 2 ^ f.toNat := by
    rw [e3]; unfold wrap64; omega
  unfold mkF
  rw [e1, e2, e4]
  refine ⟨rfl, ?_, ?_⟩ <;> rw [e3] <;> omega

set_option maxHeartbeats 400000 in
theorem l8Bits_any (f c : Int) (w : World) (h1 : 0 ≤ f) (h2 : 1 ≤ c) (h3 : f + c ≤ 24) :
    Calls Tryz.prog 87 #[.agg #[.int .i64 f, .int .i64 c]] w fun e w' => e = .returned (.int .i64 (mkF f c)) ∧ Fresh w w' := by
  have k1 : f ≤ 23 := by omega
  have k2 : c ≤ 24 := by omega
  have k3 : 0 ≤ c := by omega
  go_enter Tryz.func87, Tryz.ntmps87
  go_wp2
  go_ret
  exact ⟨rfl, fnew (frefl _) _⟩
set_option maxHeartbeats 400000 in
theorem maskOf_any (f c : Int) (w : World) (h1 : 0 ≤ f) (h2 : 1 ≤ c) (h3 : f + c ≤ 24) :
    Calls Tryz.prog 100 #[.agg #[.int .i64 f, .int .i64 c]] w fun e w' => e = .returned (.int .i64 (mkF f c)) ∧ Fresh w w' := by
  have k1 : f ≤ 23 := by omega
  have k2 : c ≤ 24 := by omega
  have k3 : 0 ≤ c := by omega
  go_enter Tryz.func100, Tryz.ntmps100
  go_wp2
  go_quiet (fail)
  go_wp2
  go_ret
  exact ⟨rfl, fdrewN (fnew (frefl _) _) _⟩


end Go.Proofs.YtjhaoonacjebpaaGreatDoor

/- Plain laws: bits of masks as natural numbers (no program in sight). -/
namespace Go.Proofs.YtjhaoonacjebpaaGreatDoor
open Go.RowKit

theorem w63b (n : Int) (h0 : 0 ≤ n) (h1 : n < 2 ^ 63) : IntKind.i64.wrap n = n := by
  rw [IntKind.wrap_i64]
  have e : (2 : Int) ^ 63 = 9223372036854775808 := by decide
  omega
theorem or_i64 (a b : Nat) (ha : a < 2 ^ 63) (hb : b < 2 ^ 63) : bits BinOp.or IntKind.i64 (a : Int) (b : Int) = ((a ||| b : Nat) : Int) := (bits_nat .i64 63 (by decide) w63b a b ha hb).2
theorem andn_i64 (a b : Nat) (ha : a < 2 ^ 63) (hb : b < 2 ^ 63) : bits BinOp.and IntKind.i64 (a : Int) (b : Int) = ((a &&& b : Nat) : Int) := (bits_nat .i64 63 (by decide) w63b a b ha hb).1
theorem or24 {a b : Nat} (ha : a < 16777216) (hb : b < 16777216) : a ||| b < 16777216 := Nat.or_lt_two_pow (n := 24) ha hb
theorem lt63 {a : Nat} (ha : a < 16777216) : a < 2 ^ 63 := Nat.lt_trans ha (by decide)
/-- The mask of a block. -/
def mkN (b : Int × Int) : Nat := (mkF b.1 b.2).toNat
theorem mkN_ok {f c : Int} (h : goodB f c = true) : mkF f c = ((mkN (f, c) : Nat) : Int) ∧ 1 ≤ mkN (f, c) ∧ mkN (f, c) < 16777216 := by
  obtain ⟨h1, h2, h3⟩ := goodB_iff.1 h
  obtain ⟨_, g2, g3⟩ := mkF_val h1 h2 h3
  unfold mkN
  simp only
  omega
end Go.Proofs.YtjhaoonacjebpaaGreatDoor

/- Plain arithmetic: the sum of a number's 24 bits is what the library's way of counting ones in 64-bit words gives. -/
namespace Go.Proofs.YtjhaoonacjebpaaGreatDoor.pop

theorem and_lane (a b p q : Nat) (ha : a < 2 ^ 8) (hp : p < 2 ^ 8) : (2 ^ 8 * b + a) &&& (2 ^ 8 * q + p) = 2 ^ 8 * (b &&& q) + (a &&& p) := by
  have hap : a &&& p < 2 ^ 8 := Nat.and_lt_two_pow a hp
  apply Nat.eq_of_testBit_eq
  intro i
  rw [Nat.testBit_and, Nat.testBit_two_pow_mul_add b ha, Nat.testBit_two_pow_mul_add q hp, Nat.testBit_two_pow_mul_add (b &&& q) hap]
  split
  · rw [Nat.testBit_and]
  · rw [Nat.testBit_and]
/-- Three bytes. -/
def three (a b c : Nat) : Nat := 2 ^ 8 * (2 ^ 8 * (2 ^ 8 * 0 + c) + b) + a
theorem and_three (a b c p q : Nat) (ha : a < 256) (hb : b < 256) (hc : c < 256) (hp : p < 256) : three a b c &&& (2 ^ 8 * (2 ^ 8 * (2 ^ 8 * q + p) + p) + p) = three (a &&& p) (b &&& p) (c &&& p) := by
  unfold three
  rw [and_lane _ _ _ _ ha hp, and_lane _ _ _ _ hb hp, and_lane _ _ _ _ hc hp, Nat.zero_and]
def s1 (a : Nat) : Nat := ((a / 2) &&& 85) + (a &&& 85)
def s2 (a : Nat) : Nat := ((s1 a / 4) &&& 51) + (s1 a &&& 51)
def s3 (a : Nat) : Nat := (s2 a / 16 + s2 a) &&& 15
/-- The ones of a byte. -/
def pc (a : Nat) : Nat := a % 2 + a / 2 % 2 + a / 4 % 2 + a / 8 % 2 + a / 16 % 2 + a / 32 % 2 + a / 64 % 2 + a / 128 % 2
theorem f1 : ∀ a, a < 256 → ∀ t, t < 2 → (a / 2 + 128 * t) &&& 85 = (a / 2) &&& 85 := by decide +kernel
theorem b1 : ∀ a, a < 256 → s1 a < 256 := by decide +kernel
theorem f2 : ∀ a, a < 256 → ∀ t, t < 4 → (s1 a / 4 + 64 * t) &&& 51 = (s1 a / 4) &&& 51 := by decide +kernel
theorem b2 : ∀ a, a < 256 → s2 a ≤ 68 ∧ s2 a % 16 ≤ 4 := by decide +kernel
theorem f3 : ∀ a, a < 256 → ∀ t, t < 5 → (s2 a / 16 + 16 * t + s2 a) &&& 15 = s3 a := by decide +kernel
theorem f4 : ∀ a, a < 256 → s3 a = pc a ∧ pc a ≤ 8 := by decide +kernel
theorem add_three (a b c p q r : Nat) : three a b c + three p q r = three (a + p) (b + q) (c + r) := by unfold three; omega
theorem div2 (a b c : Nat) (_ha : a < 256) (_hb : b < 256) (_hc : c < 256) : three a b c / 2 = three (a / 2 + 128 * (b % 2)) (b / 2 + 128 * (c % 2)) (c / 2) := by unfold three; omega
theorem div4 (a b c : Nat) (_ha : a < 256) (_hb : b < 256) (_hc : c < 256) : three a b c / 4 = three (a / 4 + 64 * (b % 4)) (b / 4 + 64 * (c % 4)) (c / 4) := by unfold three; omega
theorem div16 (a b c : Nat) (_ha : a < 256) (_hb : b < 256) (_hc : c < 256) : three a b c / 16 = three (a / 16 + 16 * (b % 16)) (b / 16 + 16 * (c % 16)) (c / 16) := by unfold three; omega

def M0 : Nat := 6148914691236517205
def M1 : Nat := 3689348814741910323
def M2 : Nat := 1085102592571150095
theorem step1 (a b c : Nat) (ha : a < 256) (hb : b < 256) (hc : c < 256) : ((three a b c / 2) &&& M0) + (three a b c &&& M0) = three (s1 a) (s1 b) (s1 c) := by
  have e : M0 = 2 ^ 8 * (2 ^ 8 * (2 ^ 8 * 366503875925 + 85) + 85) + 85 := by decide +kernel
  rw [e, div2 a b c ha hb hc, and_three _ _ _ 85 _ (by omega) (by omega) (by omega) (by omega), and_three _ _ _ 85 _ ha hb hc (by omega), add_three,
    f1 a ha _ (by omega), f1 b hb _ (by omega)]
  rfl
theorem step2 (a b c : Nat) (ha : a < 256) (hb : b < 256) (hc : c < 256) : ((three (s1 a) (s1 b) (s1 c) / 4) &&& M1) + (three (s1 a) (s1 b) (s1 c) &&& M1) = three (s2 a) (s2 b) (s2 c) := by
  have e : M1 = 2 ^ 8 * (2 ^ 8 * (2 ^ 8 * 219902325555 + 51) + 51) + 51 := by decide +kernel
  have h1 := b1 a ha; have h2 := b1 b hb; have h3 := b1 c hc
  rw [e, div4 _ _ _ h1 h2 h3, and_three _ _ _ 51 _ (by omega) (by omega) (by omega) (by omega), and_three _ _ _ 51 _ h1 h2 h3 (by omega), add_three,
    f2 a ha _ (by omega), f2 b hb _ (by omega)]
  rfl
theorem step3 (a b c : Nat) (ha : a < 256) (hb : b < 256) (hc : c < 256) : ((three (s2 a) (s2 b) (s2 c) / 16) + three (s2 a) (s2 b) (s2 c)) &&& M2 = three (pc a) (pc b) (pc c) := by
  have e : M2 = 2 ^ 8 * (2 ^ 8 * (2 ^ 8 * 64677154575 + 15) + 15) + 15 := by decide +kernel
  obtain ⟨h1, k1⟩ := b2 a ha; obtain ⟨h2, k2⟩ := b2 b hb; obtain ⟨h3, k3⟩ := b2 c hc
  have e0 := f3 c hc 0 (by omega)
  rw [Nat.mul_zero, Nat.add_zero] at e0
  rw [e, div16 _ _ _ (by omega) (by omega) (by omega), add_three, and_three _ _ _ 15 _ (by omega) (by omega) (by omega) (by omega),
    f3 a ha _ (by omega), f3 b hb _ (by omega), e0, (f4 a ha).1, (f4 b hb).1, (f4 c hc).1]
theorem last (y : Nat) (p q r : Nat) (hp : p ≤ 8) (hq : q ≤ 8) (hr : r ≤ 8) (hy : y = three p q r) :
    (((y + y / 256) + (y + y / 256) / 65536) + ((y + y / 256) + (y + y / 256) / 65536) / 4294967296) &&& 127 = p + q + r := by
  have e : (127 : Nat) = 2 ^ 7 - 1 := by decide
  rw [e, Nat.and_two_pow_sub_one_eq_mod]
  have h0 : y = p + 256 * q + 65536 * r := by unfold three at hy; omega
  have h1 : y / 256 = q + 256 * r := by omega
  have h2 : (y + y / 256) / 65536 = r := by rw [h1]; omega
  have h3 : ((y + y / 256) + (y + y / 256) / 65536) / 4294967296 = 0 := by rw [h2, h1]; omega
  rw [h3, h2, h1, h0]
  omega
/-- The sum of the 24 bits. -/
def cnt (n : Nat) : Nat := pc (n % 256) + pc (n / 256 % 256) + pc (n / 65536)
theorem swar3 (a b c n x1 x2 x3 : Nat) (ha : a < 256) (hb : b < 256) (hc : c < 256) (hn : n = three a b c) (h1 : x1 = ((n / 2) &&& M0) + (n &&& M0)) (h2 : x2 = ((x1 / 4) &&& M1) + (x1 &&& M1)) (h3 : x3 = ((x2 / 16) + x2) &&& M2) :
    (((x3 + x3 / 256) + (x3 + x3 / 256) / 65536) + ((x3 + x3 / 256) + (x3 + x3 / 256) / 65536) / 4294967296) &&& 127 = pc a + pc b + pc c := by
  have e1 : x1 = three (s1 a) (s1 b) (s1 c) := by rw [h1, hn]; exact step1 a b c ha hb hc
  have e2 : x2 = three (s2 a) (s2 b) (s2 c) := by rw [h2, e1]; exact step2 a b c ha hb hc
  have e3 : x3 = three (pc a) (pc b) (pc c) := by rw [h3, e2]; exact step3 a b c ha hb hc
  exact last x3 _ _ _ (f4 _ ha).2 (f4 _ hb).2 (f4 _ hc).2 e3
theorem split3 (n : Nat) : n = three (n % 256) (n / 256 % 256) (n / 65536) := by
  have h : three (n % 256) (n / 256 % 256) (n / 65536) = 65536 * (n / 65536) + 256 * (n / 256 % 256) + n % 256 := by
    generalize n % 256 = a
    generalize n / 256 % 256 = b
    generalize n / 65536 = c
    unfold three; omega
  rw [h]; omega
theorem swar (n x1 x2 x3 : Nat) (h : n < 16777216) (h1 : x1 = ((n / 2) &&& M0) + (n &&& M0)) (h2 : x2 = ((x1 / 4) &&& M1) + (x1 &&& M1)) (h3 : x3 = ((x2 / 16) + x2) &&& M2) :
    (((x3 + x3 / 256) + (x3 + x3 / 256) / 65536) + ((x3 + x3 / 256) + (x3 + x3 / 256) / 65536) / 4294967296) &&& 127 = cnt n :=
  swar3 _ _ _ n x1 x2 x3 (by omega) (by omega) (by omega) (split3 n) h1 h2 h3
/-- Bit by bit. -/
def cntTo (n : Nat) : Nat → Nat
  | 0 => 0
  | k + 1 => cntTo n k + n / 2 ^ k % 2
theorem cntTo_le (n k : Nat) : cntTo n k ≤ k := by
  induction k with
  | zero => simp [cntTo]
  | succ k ih => unfold cntTo; omega
/-- The low eight bits. -/
def low (m : Nat) : Nat := m % 2 + m / 2 % 2 + m / 4 % 2 + m / 8 % 2 + m / 16 % 2 + m / 32 % 2 + m / 64 % 2 + m / 128 % 2
theorem low_pc (m : Nat) : pc (m % 256) = low m := by
  have h0 : m % 256 % 2 = m % 2 := by omega
  have h1 : m % 256 / 2 % 2 = m / 2 % 2 := by omega
  have h2 : m % 256 / 4 % 2 = m / 4 % 2 := by omega
  have h3 : m % 256 / 8 % 2 = m / 8 % 2 := by omega
  have h4 : m % 256 / 16 % 2 = m / 16 % 2 := by omega
  have h5 : m % 256 / 32 % 2 = m / 32 % 2 := by omega
  have h6 : m % 256 / 64 % 2 = m / 64 % 2 := by omega
  have h7 : m % 256 / 128 % 2 = m / 128 % 2 := by omega
  simp only [pc, low, h0, h1, h2, h3, h4, h5, h6, h7]
theorem cntTo_24 (n : Nat) (h : n < 16777216) : cntTo n 24 = cnt n := by
  have hc : n / 65536 = n / 65536 % 256 := by omega
  have e : cnt n = low n + low (n / 256) + low (n / 65536) := by
    unfold cnt
    rw [low_pc, low_pc]
    have e2 : pc (n / 65536) = low (n / 65536) := by
      have := low_pc (n / 65536)
      rw [← hc] at this
      exact this
    rw [e2]
  have k0 : n / 2 ^ 0 = n := Nat.div_one n
  have k1 : n / 2 ^ 1 = n / 2 := rfl
  have k2 : n / 2 ^ 2 = n / 4 := rfl
  have k3 : n / 2 ^ 3 = n / 8 := rfl
  have k4 : n / 2 ^ 4 = n / 16 := rfl
  have k5 : n / 2 ^ 5 = n / 32 := rfl
  have k6 : n / 2 ^ 6 = n / 64 := rfl
  have k7 : n / 2 ^ 7 = n / 128 := rfl
  have k8 : n / 2 ^ 8 = n / 256 := rfl
  have k9 : n / 2 ^ 9 = n / 256 / 2 := (Nat.div_div_eq_div_mul n 256 2).symm
  have k10 : n / 2 ^ 10 = n / 256 / 4 := (Nat.div_div_eq_div_mul n 256 4).symm
  have k11 : n / 2 ^ 11 = n / 256 / 8 := (Nat.div_div_eq_div_mul n 256 8).symm
  have k12 : n / 2 ^ 12 = n / 256 / 16 := (Nat.div_div_eq_div_mul n 256 16).symm
  have k13 : n / 2 ^ 13 = n / 256 / 32 := (Nat.div_div_eq_div_mul n 256 32).symm
  have k14 : n / 2 ^ 14 = n / 256 / 64 := (Nat.div_div_eq_div_mul n 256 64).symm
  have k15 : n / 2 ^ 15 = n / 256 / 128 := (Nat.div_div_eq_div_mul n 256 128).symm
  have k16 : n / 2 ^ 16 = n / 65536 := rfl
  have k17 : n / 2 ^ 17 = n / 65536 / 2 := (Nat.div_div_eq_div_mul n 65536 2).symm
  have k18 : n / 2 ^ 18 = n / 65536 / 4 := (Nat.div_div_eq_div_mul n 65536 4).symm
  have k19 : n / 2 ^ 19 = n / 65536 / 8 := (Nat.div_div_eq_div_mul n 65536 8).symm
  have k20 : n / 2 ^ 20 = n / 65536 / 16 := (Nat.div_div_eq_div_mul n 65536 16).symm
  have k21 : n / 2 ^ 21 = n / 65536 / 32 := (Nat.div_div_eq_div_mul n 65536 32).symm
  have k22 : n / 2 ^ 22 = n / 65536 / 64 := (Nat.div_div_eq_div_mul n 65536 64).symm
  have k23 : n / 2 ^ 23 = n / 65536 / 128 := (Nat.div_div_eq_div_mul n 65536 128).symm
  rw [e]
  simp only [cntTo, low, k0, k1, k2, k3, k4, k5, k6, k7, k8, k9, k10, k11, k12, k13, k14, k15, k16, k17, k18, k19, k20, k21, k22, k23, Nat.add_assoc, Nat.zero_add]
end Go.Proofs.YtjhaoonacjebpaaGreatDoor.pop

/- Contracts: the ones of a mask, both sides. -/
namespace Go.Proofs.YtjhaoonacjebpaaGreatDoor
open Go.RowKit

theorem w63 (n : Int) (h0 : 0 ≤ n) (h1 : n < 2 ^ 63) : IntKind.i64.wrap n = n := by
  rw [IntKind.wrap_i64]
  have e : (2 : Int) ^ 63 = 9223372036854775808 := by decide
  omega
theorem and_i64 (a b : Nat) (ha : a < 2 ^ 63) (hb : b < 2 ^ 63) : bits BinOp.and IntKind.i64 (a : Int) (b : Int) = ((a &&& b : Nat) : Int) :=
  (bits_nat .i64 63 (by decide) w63 a b ha hb).1
theorem and_one (m k : Nat) (hm : m < 2 ^ 63) : bits BinOp.and IntKind.i64 ((m : Int) / 2 ^ k) 1 = ((m / 2 ^ k % 2 : Nat) : Int) := by
  have h : m / 2 ^ k < 2 ^ 63 := Nat.lt_of_le_of_lt (Nat.div_le_self _ _) hm
  have e : ((m : Int) / 2 ^ k) = ((m / 2 ^ k : Nat) : Int) := by rw [Int.natCast_ediv, Int.natCast_pow]; rfl
  have := and_i64 (m / 2 ^ k) 1 h (by decide)
  rw [e]
  rw [show ((1 : Int)) = ((1 : Nat) : Int) from rfl, this, Nat.and_one_is_mod]

theorem and_u64 (a b : Nat) (ha : a < 18446744073709551616) (hb : b < 18446744073709551616) : bits BinOp.and IntKind.u64 (a : Int) (b : Int) = ((a &&& b : Nat) : Int) := bits_and_u64_nat a b ha hb

end Go.Proofs.YtjhaoonacjebpaaGreatDoor

/- Contracts: numbers laid into a slice of the call's own, and asked for again (ints). -/
namespace Go.Proofs.YtjhaoonacjebpaaGreatDoor
open Go.RowKit

/-- The numbers from k on. -/
def marks (k : Int) (n : Nat) : List Int := (List.range n).map fun (j : Nat) => k + (j : Int)
theorem marks_len (k : Int) (n : Nat) : (marks k n).length = n := by simp [marks]
theorem marks_succ (k : Int) (n : Nat) : marks k (n + 1) = marks k n ++ [k + (n : Int)] := by simp [marks, List.range_succ]
theorem marks_get {k : Int} {n j : Nat} {x : Int} (h : (marks k n)[j]? = some x) : x = k + (j : Int) := by
  have hj : j < n := by
    rcases Nat.lt_or_ge j n with h' | h'
    · exact h'
    · rw [List.getElem?_eq_none (by rw [marks_len]; exact h')] at h; cases h
  simp [marks, hj] at h
  exact h.symm
theorem set_marks (k : Int) (xs : List Int) (sp : List Value) (j : Nat) (hj : j < xs.length) :
    ((marks k j ++ xs.drop j).map iv ++ sp).set j (iv (k + (j : Int))) = (marks k (j + 1) ++ xs.drop (j + 1)).map iv ++ sp := by
  have hl : ((marks k j).map iv).length = j := by simp [marks_len]
  rw [List.drop_eq_getElem_cons hj, List.map_append, List.map_cons, List.append_assoc, List.set_append, if_neg (by omega), hl, Nat.sub_self, List.cons_append, List.set_cons_zero, marks_succ]
  simp
theorem get_marks (k : Int) (xs : List Int) (sp : List Value) (j : Nat) (hj : j < xs.length) : ((marks k j ++ xs.drop j).map iv ++ sp)[j]? = some (iv xs[j]) := by
  have hl : ((marks k j).map iv).length = j := by simp [marks_len]
  rw [List.drop_eq_getElem_cons hj, List.map_append, List.map_cons, List.append_assoc, List.getElem?_append_right (by omega), hl, Nat.sub_self]
  rfl

set_option maxHeartbeats 1000000 in
theorem markIntS_any (p : Option Addr) (cap base : Nat) (xs : List Int) (k0 : Int) (w : World) (ho : Own w base 3 p (xs.map iv)) (hn : xs.length ≤ 1099511627776) (h0 : 0 ≤ k0) (h1 : k0 ≤ 1099511627776) :
    Calls Tryz.prog 74 #[.slice p xs.length cap, .int .i64 k0] w fun e w' => e = .returned (.int .i64 (k0 + xs.length)) ∧ Own w' base 3 p ((marks k0 xs.length).map iv) ∧ Below base w w' := by
  go_enter Tryz.func74, Tryz.ntmps74
  go_wp2
  go_loopw [1, 5] (fun kk i wr => ∃ j : Nat, j ≤ xs.length ∧ i = .int .i64 j ∧ kk = .int .i64 (k0 + j) ∧ Own wr base 3 p ((marks k0 j ++ xs.drop j).map iv) ∧ Below base w wr) (fun _ i _ => xs.length - (intOf i).toNat)
  case atStart => exact ⟨0, Nat.zero_le _, rfl, by simp, by simpa [marks] using ho, Below.refl _ _⟩
  case round =>
    obtain ⟨j, hj, rfl, rfl, hown, hb⟩ := hrel
    have HB := Lib.hid hb
    clear hb ho
    by_cases hlt : j < xs.length
    · rcases hown with ⟨_, hnil⟩ | ⟨g, sp, rfl, hg, hr⟩
      · exfalso
        have := congrArg List.length hnil
        simp [marks_len] at this
        omega
      · have hc := hr.cell (get_marks k0 xs sp j hlt)
        have hf := hr.frozen j
        have HR := Lib.hid hr
        clear hr
        go_wp2
        go_roundw
        case rel =>
          refine ⟨j + 1, by omega, by go_num, by go_num, Or.inr ⟨g, sp, rfl, hg, ?_⟩, HB.out.setCell hg _⟩
          have := HR.out.set j (iv (k0 + (j : Int)))
          rw [set_marks k0 xs sp j hlt] at this
          exact this
        case measure => simp [intOf]; omega
    · have hjn : j = xs.length := by omega
      subst hjn
      have HO := Lib.hid hown
      clear hown
      go_wp2
      go_ret
      refine ⟨rfl, ?_, HB.out⟩
      have := HO.out
      simpa using this

set_option maxHeartbeats 1000000 in
theorem heldIntS_any (p : Option Addr) (cap n : Nat) (k0 : Int) (w : World) (hI : Ints w p (marks k0 n)) (hn : n ≤ 1099511627776) (h0 : 0 ≤ k0) (h1 : k0 ≤ 1099511627776) :
    Calls Tryz.prog 77 #[.slice p n cap, .int .i64 k0] w fun e w' => e = .returned (.int .i64 (k0 + n)) ∧ w = w' := by
  go_enter Tryz.func77, Tryz.ntmps77
  go_wp2
  go_loop [1, 5] (fun kk i => ∃ j : Nat, j ≤ n ∧ i = .int .i64 j ∧ kk = .int .i64 (k0 + j)) (fun _ i => n - (intOf i).toNat)
  case atStart => exact ⟨0, Nat.zero_le _, rfl, by simp⟩
  case round =>
    obtain ⟨j, hj, rfl, rfl⟩ := hrel
    by_cases hlt : j < n
    · obtain ⟨b, off, x, rfl, hx, hc⟩ := hI.at (k := j) (by rw [marks_len]; exact hlt)
      obtain rfl := marks_get hx
      clear hx hI
      go_wp2
      go_round
      case rel => exact ⟨j + 1, by omega, by go_num, by go_num⟩
      case measure => simp [intOf]; omega
    · have hjn : j = n := by omega
      subst hjn
      go_wp2
      go_ret
      exact ⟨rfl, rfl⟩
end Go.Proofs.YtjhaoonacjebpaaGreatDoor

/- Numbers laid into slices of an argument's own: what such a call may change (only rows of some types in the blocks lo .. hi), and the first of them. -/
namespace Go.Proofs.YtjhaoonacjebpaaGreatDoor
open Go.RowKit Go.PlainAid

theorem RowAt.inj {w : World} {g : Nat} {t t' : TypeId} {cs cs' : List Value} (h : RowAt w g t cs) (h' : RowAt w g t' cs') : t = t' ∧ cs = cs' := by
  unfold RowAt at h h'
  rw [h] at h'
  simp only [Option.some.injEq, Obj.cells.injEq] at h'
  exact ⟨h'.2.1, by simpa using h'.1⟩
/-- Only rows of the types T in the blocks lo .. hi have changed, and these not in their length. -/
structure Mk (T : TypeId → Prop) (lo hi : Nat) (w w' : World) : Prop where
  low : Below lo w w'
  up : ∀ b, hi ≤ b → b < w.heap.size → w'.heap[b]? = w.heap[b]?
  row : ∀ g t cs, RowAt w g t cs → ¬ T t → RowAt w' g t cs
  shp : ∀ g t cs, RowAt w g t cs → ∃ cs', RowAt w' g t cs' ∧ cs'.length = cs.length
theorem Mk.refl (T : TypeId → Prop) (lo hi : Nat) (w : World) : Mk T lo hi w w :=
  ⟨Below.refl _ _, fun _ _ _ => rfl, fun _ _ _ h _ => h, fun _ _ cs h => ⟨cs, h, rfl⟩⟩
theorem Mk.trans {T : TypeId → Prop} {lo hi : Nat} {a b c : World} (h : Mk T lo hi a b) (k : Mk T lo hi b c) : Mk T lo hi a c := by
  refine ⟨h.low.trans k.low, fun g h1 h2 => (k.up g h1 (Nat.lt_of_lt_of_le h2 h.low.size)).trans (h.up g h1 h2), fun g t cs h1 h2 => k.row g t cs (h.row g t cs h1 h2) h2, fun g t cs h1 => ?_⟩
  obtain ⟨cs1, h2, h3⟩ := h.shp g t cs h1
  obtain ⟨cs2, h4, h5⟩ := k.shp g t cs1 h2
  exact ⟨cs2, h4, h5.trans h3⟩
theorem Mk.more {T T' : TypeId → Prop} {lo hi : Nat} {a b : World} (h : Mk T lo hi a b) (hT : ∀ t, T t → T' t) : Mk T' lo hi a b :=
  ⟨h.low, h.up, fun g t cs h1 h2 => h.row g t cs h1 fun h3 => h2 (hT t h3), h.shp⟩
theorem Mk.wide {T : TypeId → Prop} {lo hi lo' hi' : Nat} {a b : World} (h : Mk T lo hi a b) (h1 : lo' ≤ lo) (h2 : hi ≤ hi') : Mk T lo' hi' a b :=
  ⟨h.low.mono h1, fun g h3 h4 => h.up g (Nat.le_trans h2 h3) h4, h.row, h.shp⟩
theorem Mk.fresh {T : TypeId → Prop} {lo hi : Nat} {a b : World} (h : Fresh a b) (hl : lo ≤ a.heap.size) : Mk T lo hi a b :=
  ⟨h.mono hl, fun g _ h2 => h.block g h2, fun _ _ _ h1 _ => h1.keep h, fun _ _ cs h1 => ⟨cs, h1.keep h, rfl⟩⟩
theorem Mk.set {T : TypeId → Prop} {lo hi : Nat} {w a : World} (h : Mk T lo hi w a) {g : Nat} {t : TypeId} {cs : List Value} (hr : RowAt a g t cs) (hT : T t) (h1 : lo ≤ g) (h2 : g < hi) (i : Nat) (v : Value) : Mk T lo hi w (a.setCell ⟨g, i, none⟩ v) := by
  refine ⟨h.low.setCell h1 v, fun b h3 h4 => ?_, fun g' t' cs' h3 h4 => ?_, fun g' t' cs' h3 => ?_⟩
  · rw [Below.heap_setCell _ _ _ _ (show b ≠ g by omega)]; exact h.up b h3 h4
  · have h5 := h.row g' t' cs' h3 h4
    refine h5.setOther (fun he => ?_) v
    subst he
    exact h4 ((h5.inj hr).1 ▸ hT)
  · obtain ⟨cs1, h4, h5⟩ := h.shp g' t' cs' h3
    by_cases he : g' = g
    · subst he
      exact ⟨_, h4.set i v, by simpa using h5⟩
    · exact ⟨_, h4.setOther he v, h5⟩
/-- Behind it: what was made before the rows, or after them. -/
theorem Mk.fresh_of {T : TypeId → Prop} {lo hi : Nat} {w a b : World} (h : Fresh w a) (k : Mk T lo hi a b) (hl : w.heap.size ≤ lo) : Fresh w b := h.trans (k.low.mono hl)
theorem Mk.cell {T : TypeId → Prop} {lo hi : Nat} {a b : World} (k : Mk T lo hi a b) {g o : Nat} {v : Value} (hg : g < lo ∨ hi ≤ g) (h : a.cell? ⟨g, o, none⟩ = some v) : b.cell? ⟨g, o, none⟩ = some v := by
  have hlt : g < a.heap.size := World.block_lt_of_cell? a ⟨g, o, none⟩ h
  have : b.heap[g]? = a.heap[g]? := by
    rcases hg with hg | hg
    · exact k.low.block g hg
    · exact k.up g hg hlt
  rw [World.cell?_of_block (a := ⟨g, o, none⟩) this]; exact h
/-- n cells of rows of the argument's own. -/
def OwnIn (w : World) (lo hi : Nat) (t : TypeId) (p : Option Addr) (n : Nat) : Prop := n = 0 ∨ ∃ g cs, p = some ⟨g, 0, none⟩ ∧ lo ≤ g ∧ g < hi ∧ RowAt w g t cs ∧ n ≤ cs.length
theorem OwnIn.keep {w w' : World} {lo hi : Nat} {t : TypeId} {p : Option Addr} {n : Nat} (h : OwnIn w lo hi t p n) (hb : Fresh w w') : OwnIn w' lo hi t p n := by
  rcases h with h | ⟨g, cs, h1, h2, h3, h4, h5⟩
  · exact Or.inl h
  · exact Or.inr ⟨g, cs, h1, h2, h3, h4.keep hb, h5⟩
theorem OwnIn.mk {T : TypeId → Prop} {lo' hi' : Nat} {w w' : World} {lo hi : Nat} {t : TypeId} {p : Option Addr} {n : Nat} (h : OwnIn w lo hi t p n) (hb : Mk T lo' hi' w w') : OwnIn w' lo hi t p n := by
  rcases h with h | ⟨g, cs, h1, h2, h3, h4, h5⟩
  · exact Or.inl h
  · obtain ⟨cs', h6, h7⟩ := hb.shp g t cs h4
    exact Or.inr ⟨g, cs', h1, h2, h3, h6, by omega⟩
theorem OwnIn.wide {w : World} {lo hi lo' hi' : Nat} {t : TypeId} {p : Option Addr} {n : Nat} (h : OwnIn w lo hi t p n) (hl : lo' ≤ lo) (hh : hi ≤ hi') : OwnIn w lo' hi' t p n := by
  rcases h with h | ⟨g, cs, h1, h2, h3, h4, h5⟩
  · exact Or.inl h
  · exact Or.inr ⟨g, cs, h1, by omega, by omega, h4, h5⟩
theorem Own.ownIn {w : World} {lo : Nat} {t : TypeId} {p : Option Addr} {cs : List Value} (h : Own w lo t p cs) : OwnIn w lo w.heap.size t p cs.length := by
  rcases h with ⟨_, h⟩ | ⟨g, sp, h1, h2, h3⟩
  · exact Or.inl (by simp [h])
  · exact Or.inr ⟨g, cs ++ sp, h1, h2, h3.lt, h3, by simp⟩
theorem RowAt.ownIn {w : World} {lo g : Nat} {t : TypeId} {cs : List Value} (h : RowAt w g t cs) (hl : lo ≤ g) : OwnIn w lo w.heap.size t (some ⟨g, 0, none⟩) cs.length :=
  Or.inr ⟨g, cs, rfl, hl, h.lt, h, Nat.le_refl _⟩
/-- A slice of a call's own that lies in the blocks lo .. hi, its cells known. -/
def Held (w : World) (lo hi : Nat) (t : TypeId) (p : Option Addr) (cs : List Value) : Prop := Own w lo t p cs ∧ ∀ g o, p = some ⟨g, o, none⟩ → g < hi
theorem Own.held {w : World} {lo : Nat} {t : TypeId} {p : Option Addr} {cs : List Value} (h : Own w lo t p cs) : Held w lo w.heap.size t p cs := by
  refine ⟨h, fun g o hp => ?_⟩
  rcases h with ⟨h1, _⟩ | ⟨g', sp, h1, h2, h3⟩
  · rw [h1] at hp; cases hp
  · rw [h1] at hp; cases hp; exact h3.lt
theorem Held.keep {w w' : World} {lo hi : Nat} {t : TypeId} {p : Option Addr} {cs : List Value} (h : Held w lo hi t p cs) (hb : Fresh w w') : Held w' lo hi t p cs := ⟨h.1.keep hb, h.2⟩
theorem Held.wide {w : World} {lo hi lo' hi' : Nat} {t : TypeId} {p : Option Addr} {cs : List Value} (h : Held w lo hi t p cs) (hl : lo' ≤ lo) (hh : hi ≤ hi') : Held w lo' hi' t p cs :=
  ⟨h.1.mono hl, fun g o hp => Nat.lt_of_lt_of_le (h.2 g o hp) hh⟩
theorem Held.mk {T : TypeId → Prop} {lo hi lo' hi' : Nat} {w w' : World} {t : TypeId} {p : Option Addr} {cs : List Value} (h : Held w lo hi t p cs) (hb : Mk T lo' hi' w w') (hd : hi ≤ lo' ∨ hi' ≤ lo) : Held w' lo hi t p cs := by
  refine ⟨?_, h.2⟩
  rcases h.1 with h1 | ⟨g, sp, h1, h2, h3⟩
  · exact Or.inl h1
  · have hg := h.2 g 0 h1
    refine Or.inr ⟨g, sp, h1, h2, ?_⟩
    have : w'.heap[g]? = w.heap[g]? := by
      rcases hd with hd | hd
      · exact hb.low.block g (by omega)
      · exact hb.up g (by omega) h3.lt
    unfold RowAt; rw [this]; exact h3
/-- Behind a call that leaves what lies below base as it was. -/
theorem Held.below {lo hi base : Nat} {w w' : World} {t : TypeId} {p : Option Addr} {cs : List Value} (h : Held w lo hi t p cs) (hb : Below base w w') (hd : hi ≤ base) : Held w' lo hi t p cs := by
  refine ⟨?_, h.2⟩
  rcases h.1 with h1 | ⟨g, sp, h1, h2, h3⟩
  · exact Or.inl h1
  · have hg := h.2 g 0 h1
    refine Or.inr ⟨g, sp, h1, h2, ?_⟩
    unfold RowAt; rw [hb.block g (by omega)]; exact h3

abbrev Kb : Int := 8796093022208
/-- What a mark of an argument hands back. -/
def MkOut (w : World) (T : TypeId → Prop) (lo hi : Nat) (k0 : Int) (e : Ending) (w' : World) : Prop := ∃ k1, e = .returned (.int .i64 k1) ∧ k0 ≤ k1 ∧ k1 ≤ k0 + Kb ∧ Mk T lo hi w w'

set_option maxHeartbeats 1000000 in
theorem markIntS_m (p : Option Addr) (cap n lo hi : Nat) (k0 : Int) (w : World) (ho : OwnIn w lo hi 3 p n) (hn : n ≤ 1099511627776) (h0 : 0 ≤ k0) (h1 : k0 ≤ 1125899906842624) :
    Calls Tryz.prog 74 #[.slice p n cap, .int .i64 k0] w fun e w' => e = .returned (.int .i64 (k0 + n)) ∧ Mk (fun t => t = 3) lo hi w w' := by
  go_enter Tryz.func74, Tryz.ntmps74
  go_wp2
  go_loopw [1, 5] (fun kk i wr => ∃ j : Nat, j ≤ n ∧ i = .int .i64 j ∧ kk = .int .i64 (k0 + j) ∧ Mk (fun t => t = 3) lo hi w wr) (fun _ i _ => n - (intOf i).toNat)
  case atStart => exact ⟨0, Nat.zero_le _, rfl, by simp, Mk.refl _ _ _ _⟩
  case round =>
    obtain ⟨j, hj, rfl, rfl, hb⟩ := hrel
    have HB := Lib.hid hb
    clear hb
    by_cases hlt : j < n
    · have ho' := ho.mk HB.out
      rcases ho' with hnil | ⟨g, cs, rfl, hl, hh, hr, hcs⟩
      · omega
      · have hc := hr.cell (show cs[j]? = some cs[j] from List.getElem?_eq_getElem (by omega))
        have hf := hr.frozen j
        have HR := Lib.hid hr
        clear hr ho
        go_wp2
        go_roundw
        case rel => exact ⟨j + 1, by omega, by go_num, by go_num, HB.out.set HR.out rfl hl hh j _⟩
        case measure => simp [intOf]; omega
    · have hjn : j = n := by omega
      subst hjn
      go_wp2
      go_ret
      exact ⟨rfl, HB.out⟩
end Go.Proofs.YtjhaoonacjebpaaGreatDoor

/- A statement whose order is open: operations that yield the same in every later world, then a tail in one forced order (no program in sight). -/
namespace Go.Proofs.YtjhaoonacjebpaaGreatDoor
open Go.RowKit

section
variable {P : Program} {ops : Array Oper} {md : Region.Mode} {C : World → Prop}
/-- Every order of what comes ahead of operation n ends in L; each operation yields in the class C. -/
def headQ (P : Program) (md : Region.Mode) (ops : Array Oper) (C : World → Prop) (n : Nat) (L : Array Bool → Act → Prop) : Nat → Array Bool → Act → Prop
  | 0, listed, a => L listed a
  | f + 1, listed, a => Region.ready md ops listed ≠ [] ∧ ∀ i ∈ Region.ready md ops listed, i < n ∧ qOp P ops C i (headQ P md ops C n L f (listed.setIfInBounds i true)) a
theorem any_of_headQ {n g : Nat} {L : Array Bool → Act → Prop} {Q : Exit → Act → World → Prop} (hL : ∀ listed a w, C w → L listed a → wpAny P md ops Q g listed a w) :
    ∀ (f : Nat) (listed : Array Bool) (a : Act) (w : World), C w → headQ P md ops C n L f listed a → wpAny P md ops Q (f + g) listed a w := by
  intro f
  induction f with
  | zero => intro listed a w hw h; rw [Nat.zero_add]; exact hL _ _ _ hw h
  | succ f ih =>
    intro listed a w hw h
    have e : f + 1 + g = (f + g) + 1 := by omega
    rw [e]
    exact ⟨fun h0 => absurd h0 h.1, fun i hi => wpOp_of_qOp hw (fun a' w' hw' h' => ih _ a' w' hw' h') (h.2 i hi).2⟩
theorem headQ_first {n i : Nat} {oi : Oper} {v : Value} {L : Array Bool → Act → Prop} (hi : ops[i]? = some oi) (hsel : ∀ (j : Nat) (o : Oper) cs b, ops[j]? = some o → o.op ≠ .select cs b)
    (hs : Region.sinkB md ops n = true) (hc : Region.chainB md ops n = true) (hn : n < ops.size) (hin : i < n) (hdone : ∀ listed a, L listed a → ∀ j ∈ Region.ready md ops listed, n ≤ j) :
    ∀ (f : Nat) (listed : Array Bool) (a : Act), HeadInv md ops n listed →
      (∀ j oj, ops[j]? = some oj → j ≠ i → listed.getD j true = false → (∀ e ∈ oj.after, Region.binds md e = true → e.on ≠ i) → oi.apart ops oj = true) →
      i ∈ Region.ready md ops listed → YieldsIn P ops C oi v a →
      headQ P md ops C n L f (listed.setIfInBounds i true) (a.put oi.dst v) → headQ P md ops C n L (f + 1) listed a := by
  have early : ∀ (listed : Array Bool), HeadInv md ops n listed → i ∈ Region.ready md ops listed → ∀ j ∈ Region.ready md ops listed, j < n := by
    intro listed inv hr j hj
    rcases Nat.lt_or_ge j n with h | h
    · exact h
    · exact absurd hj (tail_waits hs hc hn inv _ i rfl hin (mem_ready.1 hr).1 j h)
  intro f
  induction f with
  | zero =>
    intro listed a inv _ hr hy H
    refine ⟨fun h => (by rw [h] at hr; cases hr), fun j hj => ⟨early listed inv hr j hj, ?_⟩⟩
    by_cases hji : j = i
    · subst hji; exact hy.qOp hi H
    · have h1 := hdone _ _ H j (ready_mono hj hji)
      have h2 := early listed inv hr j hj
      omega
  | succ f ih =>
    intro listed a inv hfree hr hy H
    refine ⟨fun h => (by rw [h] at hr; cases hr), fun j hj => ⟨early listed inv hr j hj, ?_⟩⟩
    by_cases hji : j = i
    · subst hji; exact hy.qOp hi H
    · have h1 := (H.2 j (ready_mono hj hji)).2
      obtain ⟨hjun, oj, hoj, hall⟩ := mem_ready.1 hj
      have hnot : ∀ e ∈ oj.after, Region.binds md e = true → e.on ≠ i := fun e he hb heq => by
        have h3 := hall e he hb
        rw [heq, getD_both (mem_ready.1 hr).1] at h3
        cases h3
      have h2 := qOp_put hoj (hfree j oj hoj hji hjun hnot) (fun cs b => hsel i oi cs b hi) (fun cs b => hsel j oj cs b hoj) hy h1
      refine qOp_mono (fun a' h3 => ih (listed.setIfInBounds j true) a' (inv.set hj (early listed inv hr j hj)) (fun k ok hk hki hun hno => ?_) (ready_mono hr (Ne.symm hji)) h3.1 ?_) h2
      · refine hfree k ok hk hki ?_ hno
        by_cases hjk : j = k
        · subst hjk; exact hjun
        · rw [getD_set_ne true hjk] at hun; exact hun
      · rw [Array.setIfInBounds_comm _ _ hji]
        exact h3.2
theorem headQ_lex {n g : Nat} {Lq : Act → Prop} (hsel : Region.noSelect ops = true) (hs : Region.sinkB md ops n = true) (hc : Region.chainB md ops n = true) (hn : n < ops.size) :
    ∀ (l : List Oper) (k : Nat) (listed : Array Bool) (a : Act), (∀ j, j < l.length → l[j]? = ops[k + j]?) → k + l.length = n → HeadInv md ops n listed →
    Region.lexHead md ops g l.length k listed = true → wpQuiet P ops C Lq l a →
    headQ P md ops C n (fun listed' a' => Region.seqB md ops g n listed' = true ∧ Lq a') l.length listed a := by
  intro l
  induction l with
  | nil =>
    intro k listed a _ hk _ hB h
    have : k = n := by simpa using hk
    subst this
    exact ⟨by simpa [Region.lexHead] using hB, h⟩
  | cons o l ih =>
    intro k listed a hl hk inv hB h
    have h0 : ops[k]? = some o := by simpa using (hl 0 (by simp)).symm
    simp only [List.length_cons, Region.lexHead, Bool.and_eq_true] at hB
    obtain ⟨⟨hr, hf⟩, hB'⟩ := hB
    have hkn : k < n := by simp only [List.length_cons] at hk; omega
    have hr' : k ∈ Region.ready md ops listed := by simpa using hr
    have hst : qOp P ops C k (wpQuiet P ops C Lq l) a := by unfold qOp; simp only [h0]; exact h
    obtain ⟨v, hy, hK⟩ := yieldsIn_of_qOp h0 hst
    refine headQ_first h0 (Region.noSelect_spec hsel) hs hc hn hkn (fun listed' a' hL => seqB_ready hL.1) l.length listed a inv (Region.free_spec h0 hf) hr' hy ?_
    refine ih (k + 1) _ _ (fun j hj => ?_) (by simp only [List.length_cons] at hk; omega) (inv.set hr' hkn) hB' hK
    have := hl (j + 1) (by simp; omega)
    simpa [Nat.add_assoc, Nat.add_comm 1 j] using this
/-- The first n operations yield the same in every later world; the others come last, one by one. -/
theorem wp_region_after_tail {id : Nat} {Q : Exit → Act → World → Prop} {a : Act} {w : World} {l : List Oper} (n : Nat) (hm : P.follows .mixedOrders = true) (hB : Region.lexTailB .any l.toArray n = true)
    (h : wpQuiet P l.toArray (fun w' => ∃ x : After w, w' = x.w') (fun a' => ∀ x : After w, wpList P l.toArray Q (l.drop n) a' x.w') (l.take n) a) : (Code.region id l.toArray true).wp P Q a w := by
  simp only [Region.lexTailB, Bool.and_eq_true, decide_eq_true_eq] at hB
  obtain ⟨⟨⟨⟨hsel, hn⟩, hs⟩, hc⟩, hlex⟩ := hB
  have hn' : n < l.length := by simpa using hn
  have htl : (l.take n).length = n := by simp; omega
  have hdl : (l.drop n).length = l.toArray.size - n := by simp
  have inv0 : HeadInv .any l.toArray n (Array.replicate l.toArray.size false) :=
    ⟨by simp, fun j oj _ hl => (by rw [getD_replicate_false] at hl; cases hl), fun t _ ht => getD_in (by simpa using ht) (getD_replicate_false _ _)⟩
  have H := headQ_lex (md := .any) (g := l.toArray.size - n) hsel hs hc hn (l.take n) 0 _ a (fun j hj => by
    have hj' : j < n := by rw [htl] at hj; exact hj
    simp [hj']) (by simpa using htl) inv0 (by rw [htl]; exact hlex) h
  refine wp_region_any hm ?_
  have := any_of_headQ (Q := Q) (g := l.toArray.size - n) (fun listed a' w' hw' hL => by
    obtain ⟨x, rfl⟩ := hw'
    have := wpAny_of_seq (md := .any) (Q' := Q) (l.drop n) n listed a' x.w' (fun j => by simp [List.getElem?_drop]) (by rw [hdl]; exact hL.1) (hL.2 x)
    rwa [hdl] at this) _ _ _ _ (⟨⟨_, fdrew (frefl w)⟩, rfl⟩ : ∃ x : After w, ({ w with drawn := w.drawn + 1 } : World) = x.w') H
  rw [htl, show n + (l.toArray.size - n) = l.toArray.size by omega] at this
  exact this
end
end Go.Proofs.YtjhaoonacjebpaaGreatDoor

/- A result of ints: compared, marked, asked again. -/
namespace Go.Proofs.YtjhaoonacjebpaaGreatDoor
open Go.RowKit Go.PlainAid

theorem bkeep {w w1 : World} {B b o : Nat} {v : Value} (h : Below B w w1) (hb : b < B) (hv : w.cell? ⟨b, o, none⟩ = some v) : w1.cell? ⟨b, o, none⟩ = some v := by
  rw [h.cell (p := ⟨b, o, none⟩) hb]; exact hv
theorem eqIntS_r (p q : Option Addr) (c d : Nat) (xs : List Int) (w : World) (hx : Cells w p (xs.map iv)) (hy : Cells w q (xs.map iv)) (hn : xs.length ≤ 1048576) :
    Calls Tryz.prog 137 #[.slice p xs.length c, .slice q xs.length d] w fun e w' => e = .returned (.bool true) ∧ Fresh w w' := by
  have := eqIntS_any p q c d xs xs w hx hy (by omega)
  rwa [show eqInts xs xs = true by simp [eqInts]] at this
theorem heldIntS_o (p : Option Addr) (cap base n : Nat) (k0 : Int) (w : World) (ho : Own w base 3 p ((marks k0 n).map iv)) (hn : n ≤ 1099511627776) (h0 : 0 ≤ k0) (h1 : k0 ≤ 1099511627776) :
    Calls Tryz.prog 77 #[.slice p n cap, .int .i64 k0] w fun e w' => e = .returned (.int .i64 (k0 + n)) ∧ Fresh w w' :=
  (heldIntS_any p cap n k0 w ho.ints hn h0 h1).mono (fun _e _w' ⟨h1, h2⟩ => ⟨h1, h2 ▸ frefl w⟩)
end Go.Proofs.YtjhaoonacjebpaaGreatDoor

