/- Small general lemmas (no program in sight): what a call leaves of old memory, ranges as Bool functions, slices that read as lists. -/
import Derived.Test.YtjlhjkdmpngkbaaRows
import Derived.WalkKit
import Derived.WalkSpells
import Derived.WalkLawsBesides
import Derived.Deep.QuietTactic
import Derived.BigQuiet
import Derived.BigGuardPart
import Derived.Lib.Hide
import Derived.Deep.WholeRow
namespace Go.Proofs.Ytjlhjkdmpngkbaa
open Go.RowKit

theorem bcell {W w1 : World} (hb : Below W.heap.size W w1) : (∀ b o, b < W.heap.size → w1.cell? ⟨b, o, none⟩ = W.cell? ⟨b, o, none⟩) ∧ (∀ b o, b < W.heap.size → w1.frozen? ⟨b, o, none⟩ = W.frozen? ⟨b, o, none⟩) :=
  ⟨fun b o h => hb.cell (p := ⟨b, o, none⟩) h, fun b o h => hb.frozen (p := ⟨b, o, none⟩) h⟩

/-- Below the heap's size at the start the world has not turned. -/
abbrev Fresh (w w' : World) : Prop := Below w.heap.size w w'
theorem fstep {w a b : World} (h : Fresh w a) (k : Fresh a b) : Fresh w b := h.trans (k.mono h.size)
theorem fnew {w a : World} (h : Fresh w a) (o : Obj) : Fresh w (a.alloc o) := h.alloc h.size o
theorem frefl (w : World) : Fresh w w := Below.refl _ _
theorem fset {w a : World} (h : Fresh w a) {b o : Nat} (hp : w.heap.size ≤ b) (u : Value) : Fresh w (a.setCell ⟨b, o, none⟩ u) := h.setCell hp u
theorem fdrewN {w a : World} (h : Fresh w a) (n : Nat) : Fresh w (a.drewN n) := h.trans ⟨rfl, rfl, rfl, Nat.le_refl _, fun _ _ => rfl⟩
theorem fdrew {w a : World} (h : Fresh w a) : Fresh w a.drew := h.drew

/-- A variable that was boxed ahead of a call reads behind it as before. -/
theorem box {w w1 : World} {cs : Array Value} {t : TypeId} (h : Fresh (w.alloc (.cells cs t)) w1) (o : Nat) {v : Value} (hv : cs[o]? = some v) : w1.cell? ⟨w.heap.size, o, none⟩ = some v := by
  rw [h.cell (p := ⟨w.heap.size, o, none⟩) (by simp)]
  unfold World.cell?
  rw [heap_alloc_last]
  simpa using hv
theorem boxsize {w w1 : World} {o : Obj} (h : Fresh (w.alloc o) w1) : w.heap.size < w1.heap.size := by have := h.size; simp at this; omega
theorem fcell {w w1 : World} (h : Fresh w w1) {b o : Nat} {v : Value} (hb : b < w.heap.size) (hv : w.cell? ⟨b, o, none⟩ = some v) : w1.cell? ⟨b, o, none⟩ = some v := by
  rw [h.cell (p := ⟨b, o, none⟩) hb]; exact hv
/-- A cell that is there lies below the heap's size. -/
theorem fkeep {w w1 : World} (h : Fresh w w1) {b o : Nat} {v : Value} (hv : w.cell? ⟨b, o, none⟩ = some v) : w1.cell? ⟨b, o, none⟩ = some v :=
  fcell h (World.block_lt_of_cell? w ⟨b, o, none⟩ hv) hv
theorem ret_bool {a b : Bool} (h : a = b) : Ending.returned (.bool a) = .returned (.bool b) := by rw [h]
theorem ret_int {k : IntKind} {a b : Int} (h : a = b) : Ending.returned (.int k a) = .returned (.int k b) := by rw [h]

def inB (x a b : Int) : Bool := decide (a ≤ x ∧ x ≤ b)
theorem inB_t {x a b : Int} (h1 : a ≤ x) (h2 : x ≤ b) : inB x a b = true := by simp [inB, h1, h2]
theorem inB_f {x a b : Int} (h : ¬ (a ≤ x ∧ x ≤ b)) : inB x a b = false := by simp only [inB, decide_eq_false_iff_not]; exact h
theorem inB_iff {x a b : Int} : inB x a b = true ↔ a ≤ x ∧ x ≤ b := by simp [inB]

/-- The cells from an address on (no address is wanted where there are none). -/
def Cells (w : World) (p : Option Addr) (cs : List Value) : Prop := cs = [] ∨ ∃ b off, p = some ⟨b, off, none⟩ ∧ ∀ i v, cs[i]? = some v → w.cell? ⟨b, off + i, none⟩ = some v
theorem Cells.keep {w w' : World} {p : Option Addr} {cs : List Value} (h : Cells w p cs) (hb : Fresh w w') : Cells w' p cs := by
  rcases h with h | ⟨b, off, rfl, hc⟩
  · exact Or.inl h
  · exact Or.inr ⟨b, off, rfl, fun i v hv => fkeep hb (hc i v hv)⟩
theorem Cells.at {w : World} {p : Option Addr} {cs : List Value} (h : Cells w p cs) {k : Nat} (hk : k < cs.length) :
    ∃ b off, p = some ⟨b, off, none⟩ ∧ ∀ i v, cs[i]? = some v → w.cell? ⟨b, off + i, none⟩ = some v := by
  rcases h with h | h
  · subst h; simp at hk
  · exact h
theorem cells_nil (w : World) (p : Option Addr) : Cells w p [] := Or.inl rfl

abbrev iv (n : Int) : Value := .int .i64 n
/-- A slice of ints. -/
def Ints (w : World) (p : Option Addr) (xs : List Int) : Prop := Cells w p (xs.map iv)
theorem Ints.keep {w w' : World} {p : Option Addr} {xs : List Int} (h : Ints w p xs) (hb : Fresh w w') : Ints w' p xs := Cells.keep h hb
theorem Ints.at {w : World} {p : Option Addr} {xs : List Int} (h : Ints w p xs) {k : Nat} (hk : k < xs.length) :
    ∃ b off x, p = some ⟨b, off, none⟩ ∧ xs[k]? = some x ∧ w.cell? ⟨b, off + k, none⟩ = some (.int .i64 x) := by
  obtain ⟨b, off, rfl, hc⟩ := Cells.at h (k := k) (by simpa using hk)
  exact ⟨b, off, xs[k], rfl, by simp [hk], hc k _ (by simp [hk])⟩

/-- A row of the call's own: block g holds just these cells, free to be written. -/
def RowAt (w : World) (g : Nat) (t : TypeId) (cs : List Value) : Prop := w.heap[g]? = some (.cells cs.toArray t (0, 0))
theorem RowAt.lt {w : World} {g : Nat} {t : TypeId} {cs : List Value} (h : RowAt w g t cs) : g < w.heap.size := by
  unfold RowAt at h
  rcases Nat.lt_or_ge g w.heap.size with h' | h'
  · exact h'
  · rw [Array.getElem?_eq_none h'] at h; cases h
theorem RowAt.cell {w : World} {g : Nat} {t : TypeId} {cs : List Value} (h : RowAt w g t cs) {i : Nat} {v : Value} (hv : cs[i]? = some v) : w.cell? ⟨g, i, none⟩ = some v := by
  unfold World.cell?
  rw [h]
  simpa using hv
theorem RowAt.frozen {w : World} {g : Nat} {t : TypeId} {cs : List Value} (h : RowAt w g t cs) (i : Nat) : w.frozen? ⟨g, i, none⟩ = false := by
  unfold RowAt at h
  simp [World.frozen?, h]
theorem RowAt.keep {w w' : World} {g : Nat} {t : TypeId} {cs : List Value} (h : RowAt w g t cs) (hb : Fresh w w') : RowAt w' g t cs := by
  unfold RowAt; rw [hb.block g h.lt]; exact h
theorem RowAt.set {w : World} {g : Nat} {t : TypeId} {cs : List Value} (h : RowAt w g t cs) (i : Nat) (v : Value) : RowAt (w.setCell ⟨g, i, none⟩ v) g t (cs.set i v) := by
  unfold RowAt at *
  simp [World.setCell, Array.getElem?_modify, h]
theorem RowAt.setOther {w : World} {g : Nat} {t : TypeId} {cs : List Value} (h : RowAt w g t cs) {b o : Nat} (hne : g ≠ b) (v : Value) : RowAt (w.setCell ⟨b, o, none⟩ v) g t cs := by
  unfold RowAt at *
  rw [Below.heap_setCell _ _ _ _ hne]; exact h
theorem RowAt.alloc {w : World} {g : Nat} {t : TypeId} {cs : List Value} (h : RowAt w g t cs) (o : Obj) : RowAt (w.alloc o) g t cs := h.keep (fnew (frefl _) o)
theorem RowAt.cells {w : World} {g : Nat} {t : TypeId} {cs : List Value} (h : RowAt w g t cs) : Cells w (some ⟨g, 0, none⟩) cs :=
  Or.inr ⟨g, 0, rfl, fun i v hv => by rw [Nat.zero_add]; exact h.cell hv⟩
theorem RowAt.new (w : World) (t : TypeId) (cs : List Value) : RowAt (w.alloc (.cells cs.toArray t)) w.heap.size t cs := by
  unfold RowAt; exact heap_alloc_last _ _
theorem madeCells_one (z : Value) (n : Nat) : madeCells #[z] n = (List.replicate n z).toArray := by
  have := toList_madeCells_one z n
  rw [← this]
theorem set_take_repl {α : Type} (xs : List α) (z : α) (k : Nat) (x : α) (hx : xs[k]? = some x) : (xs.take k ++ List.replicate (xs.length - k) z).set k x = xs.take (k + 1) ++ List.replicate (xs.length - (k + 1)) z := by
  have hk : k < xs.length := by
    rcases Nat.lt_or_ge k xs.length with h | h
    · exact h
    · rw [List.getElem?_eq_none h] at hx; cases hx
  have e : xs.length - k = (xs.length - (k + 1)) + 1 := by omega
  rw [e, List.replicate_succ, List.set_append, if_neg (by simp; omega)]
  have hl : (xs.take k).length = k := by simp; omega
  rw [hl, Nat.sub_self, List.set_cons_zero, List.take_add_one, hx]
  simp
theorem get_take_repl {α : Type} (xs : List α) (z : α) (k : Nat) (hk : k < xs.length) : (xs.take k ++ List.replicate (xs.length - k) z)[k]? = some z := by
  rw [List.getElem?_append_right (by simp; omega)]
  have hl : (xs.take k).length = k := by simp; omega
  rw [hl, Nat.sub_self]
  have e : xs.length - k = (xs.length - (k + 1)) + 1 := by omega
  rw [e, List.replicate_succ]; rfl
theorem take_repl_end {α : Type} (xs : List α) (z : α) (k : Nat) (hk : xs.length ≤ k) : xs.take k ++ List.replicate (xs.length - k) z = xs := by
  rw [List.take_of_length_le hk, Nat.sub_eq_zero_of_le hk, List.replicate_zero, List.append_nil]
theorem take_eq_step {α : Type} {xs ys : List α} {k : Nat} {x y : α} (h : xs.take k = ys.take k) (hx : xs[k]? = some x) (hy : ys[k]? = some y) (e : x = y) : xs.take (k + 1) = ys.take (k + 1) := by
  rw [List.take_add_one, List.take_add_one, h, hx, hy, e]
theorem ne_of_get {α : Type} {xs ys : List α} {k : Nat} {x y : α} (hx : xs[k]? = some x) (hy : ys[k]? = some y) (e : x ≠ y) : xs ≠ ys := by
  intro h; subst h; rw [hx] at hy; exact e (Option.some.inj hy)
theorem eq_of_take {α : Type} {xs ys : List α} {k : Nat} (h : xs.take k = ys.take k) (hx : xs.length ≤ k) (hy : ys.length ≤ k) : xs = ys := by
  rw [List.take_of_length_le hx, List.take_of_length_le hy] at h; exact h

/-- A slice of the call's own: nil and empty, or the head of a row of its own, free to be written. -/
def Own (w : World) (base : Nat) (t : TypeId) (p : Option Addr) (cs : List Value) : Prop := (p = none ∧ cs = []) ∨ ∃ g sp, p = some ⟨g, 0, none⟩ ∧ base ≤ g ∧ RowAt w g t (cs ++ sp)
theorem Own.keep {w w' : World} {base : Nat} {t : TypeId} {p : Option Addr} {cs : List Value} (h : Own w base t p cs) (hb : Fresh w w') : Own w' base t p cs := by
  rcases h with h | ⟨g, sp, hp, hg, hr⟩
  · exact Or.inl h
  · exact Or.inr ⟨g, sp, hp, hg, hr.keep hb⟩
theorem Own.cells {w : World} {base : Nat} {t : TypeId} {p : Option Addr} {cs : List Value} (h : Own w base t p cs) : Cells w p cs := by
  rcases h with ⟨_, h⟩ | ⟨g, sp, hp, hg, hr⟩
  · exact Or.inl h
  · refine Or.inr ⟨g, 0, hp, fun i v hv => ?_⟩
    rw [Nat.zero_add]
    refine hr.cell ?_
    rw [List.getElem?_append_left]
    · exact hv
    · rcases Nat.lt_or_ge i cs.length with h | h
      · exact h
      · rw [List.getElem?_eq_none h] at hv; cases hv
theorem Own.mono {w : World} {base base' : Nat} {t : TypeId} {p : Option Addr} {cs : List Value} (h : Own w base t p cs) (hb : base' ≤ base) : Own w base' t p cs := by
  rcases h with h | ⟨g, sp, hp, hg, hr⟩
  · exact Or.inl h
  · exact Or.inr ⟨g, sp, hp, by omega, hr⟩
theorem own_of_row {w : World} {base : Nat} {t : TypeId} {v : Value} {n : Nat} {xs : List Value} {size : Nat} (h : w.ownsRow base t size v n xs) : ∃ p cap, v = .slice p n cap ∧ Own w base t p xs := by
  obtain ⟨hl, ⟨rfl, rfl⟩ | ⟨g, cap, cur, rfl, hg, hh, hn, hc, hs, ht⟩⟩ := h
  · exact ⟨none, 0, rfl, Or.inl ⟨rfl, List.eq_nil_of_length_eq_zero (by simpa using hl)⟩⟩
  · refine ⟨_, cap, rfl, Or.inr ⟨g, cur.toList.drop (n * size), rfl, hg, ?_⟩⟩
    unfold RowAt
    rw [← ht, List.take_append_drop]
    exact hh
theorem ownsRow_keep {w w' : World} {base : Nat} {t : TypeId} {v : Value} {n : Nat} {xs : List Value} {size : Nat} (h : w.ownsRow base t size v n xs) (hb : Fresh w w') : w'.ownsRow base t size v n xs := by
  obtain ⟨hl, h | ⟨g, cap, cur, hv, hg, hh, r⟩⟩ := h
  · exact ⟨hl, Or.inl h⟩
  · refine ⟨hl, Or.inr ⟨g, cap, cur, hv, hg, ?_, r⟩⟩
    have hlt : g < w.heap.size := by
      rcases Nat.lt_or_ge g w.heap.size with h' | h'
      · exact h'
      · rw [Array.getElem?_eq_none h'] at hh; cases hh
    rw [hb.block g hlt]; exact hh
theorem own_block {w : World} {base : Nat} {t : TypeId} {v : Value} {n : Nat} {xs : List Value} {size : Nat} (h : w.ownsRow base t size v n xs) : ∀ k, v.ownBlock = some k → base ≤ k := fun k hk => (h.lt k hk).1
/-- Behind an append to a row of the call's own. -/
theorem fgrown {w a a' : World} {v : Value} (h : Fresh w a) (hg : a.grownBy a' v.ownBlock) (hr : ∀ k, v.ownBlock = some k → w.heap.size ≤ k) : Fresh w a' := h.grown hg h.size hr
theorem one_new {w : World} {v : Value} {t : TypeId} : ∀ (j : Nat) (u : Value), [v][j]? = some u → (w.alloc (.cells #[v] t)).cell? ((⟨w.heap.size, 0, none⟩ : Addr).add j) = some u := fun j u h => by
  match j, h with
  | 0, h => simp at h; subst h; simp [Addr.add]

theorem boxrow {w w1 : World} {cs : List Value} {t : TypeId} (h : Fresh (w.alloc (.cells cs.toArray t)) w1) : RowAt w1 w.heap.size t cs := (RowAt.new w t cs).keep h
/-- A variable that was laid ahead of a call may still be written behind it. -/
theorem boxf {w w1 : World} {cs : Array Value} {t : TypeId} (h : Fresh (w.alloc (.cells cs t)) w1) (o : Nat) : w1.frozen? ⟨w.heap.size, o, none⟩ = false := by
  have := boxrow (cs := cs.toList) (t := t) (w := w) (w1 := w1) (by simpa using h)
  exact this.frozen o
theorem Ints.at0 {w : World} {p : Option Addr} {x : Int} {xs : List Int} (h : Ints w p (x :: xs)) : ∃ b off, p = some ⟨b, off, none⟩ ∧ w.cell? ⟨b, off, none⟩ = some (.int .i64 x) := by
  obtain ⟨b, off, y, hp, hy, hc⟩ := h.at (k := 0) (by simp)
  simp at hy
  subst hy
  exact ⟨b, off, hp, hc⟩

theorem Own.setOther {w : World} {base : Nat} {t : TypeId} {p : Option Addr} {cs : List Value} (h : Own w base t p cs) {b o : Nat} (hb : b < base) (v : Value) : Own (w.setCell ⟨b, o, none⟩ v) base t p cs := by
  rcases h with h | ⟨g, sp, hp, hg, hr⟩
  · exact Or.inl h
  · exact Or.inr ⟨g, sp, hp, hg, hr.setOther (by omega) v⟩

theorem flat_one {α β : Type} (f : α → β) (l : List α) : l.map f = l.flatMap fun x => [f x] := by
  induction l with
  | nil => rfl
  | cons a l ih => rw [List.map_cons, List.flatMap_cons, ih]; rfl
theorem flat_len {α : Type} (f : α → List Value) (n : Nat) (hf : ∀ a, (f a).length = n) (l : List α) : (l.flatMap f).length = l.length * n := by
  induction l with
  | nil => simp
  | cons a l ih => rw [List.flatMap_cons, List.length_append, ih, hf, List.length_cons, Nat.add_mul, Nat.one_mul, Nat.add_comm]
theorem flat_get {α : Type} (f : α → List Value) (n : Nat) (hf : ∀ a, (f a).length = n) (l : List α) (i r : Nat) (hr : r < n) (a : α) (ha : l[i]? = some a) : (l.flatMap f)[i * n + r]? = (f a)[r]? := by
  induction l generalizing i with
  | nil => simp at ha
  | cons b l ih =>
    rw [List.flatMap_cons]
    cases i with
    | zero => simp at ha; subst ha; rw [Nat.zero_mul, Nat.zero_add, List.getElem?_append_left (by rw [hf]; exact hr)]
    | succ i =>
      have e : (i + 1) * n + r = n + (i * n + r) := by rw [Nat.add_mul, Nat.one_mul]; omega
      rw [e, List.getElem?_append_right (by rw [hf]; omega), hf, Nat.add_sub_cancel_left]
      exact ih i (by simpa using ha)


/-- A world in which nothing that was there has turned: the class of worlds for a statement whose order is open and whose callees make memory. -/
structure After (w : World) where
  w' : World
  h : Fresh w w'
instance (w : World) : Nonempty (After w) := ⟨⟨w, frefl w⟩⟩
theorem wp_region_after {P : Program} {id : Nat} {Q : Exit → Act → World → Prop} {a : Act} {w : World} {l : List Oper} (hm : P.follows .mixedOrders = true) (hB : Region.lexB .any l.toArray = true)
    (h : wpQuiet P l.toArray (fun w' => ∃ x : After w, w' = x.w') (fun a' => ∀ w', (∃ x : After w, w' = x.w') → Q .normal a' w') l a) : (Code.region id l.toArray true).wp P Q a w :=
  wp_region_quiet (C := fun w' => ∃ x : After w, w' = x.w') hm hB ⟨⟨_, fdrew (frefl _)⟩, rfl⟩ (by simpa using h)
theorem after_call {P : Program} {f : FuncId} {args : Array Value} {w : World} {x : After w} {v : Value} (h : Calls P f args x.w' fun e w' => e = .returned v ∧ Fresh x.w' w') :
    Calls P f args x.w' fun e w'' => e = .returned v ∧ ∃ y : After w, w'' = y.w' := h.mono fun _ w' ⟨he, hf⟩ => ⟨he, ⟨w', fstep x.h hf⟩, rfl⟩
theorem after_same {P : Program} {f : FuncId} {args : Array Value} {w : World} {x : After w} {v : Value} (h : Calls P f args x.w' fun e w' => e = .returned v ∧ x.w' = w') :
    Calls P f args x.w' fun e w'' => e = .returned v ∧ ∃ y : After w, w'' = y.w' := h.mono fun _ w' ⟨he, hf⟩ => ⟨he, x, hf.symm⟩
theorem akeep {w : World} {b o : Nat} {v : Value} (hv : w.cell? ⟨b, o, none⟩ = some v) (x : After w) : x.w'.cell? ⟨b, o, none⟩ = some v := fkeep x.h hv

theorem all_step {α : Type} {f : α → Bool} {xs : List α} {k : Nat} {x : α} (h : (xs.take k).all f = true) (hx : xs[k]? = some x) (hf : f x = true) : (xs.take (k + 1)).all f = true := by
  rw [List.take_add_one, hx]; simp only [Option.toList_some, List.all_append, h, List.all_cons, hf, List.all_nil, Bool.and_self]
theorem all_false {α : Type} {f : α → Bool} {xs : List α} {k : Nat} {x : α} (hx : xs[k]? = some x) (hf : f x = false) : xs.all f = false := by
  rw [List.all_eq_false]; exact ⟨x, List.mem_of_getElem? hx, by simp [hf]⟩
end Go.Proofs.Ytjlhjkdmpngkbaa
