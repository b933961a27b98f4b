/- Texts of mine laid together (Lt, Lt2, Pl, Lw, Lw2, Pv, Pv2, Pv3, OpenP, KBlk, OpenB): contracts of functions and plain laws. -/
import Derived.Test.YtlapicgeokjpjaaU3
import Derived.Test.YtlapicgeokjpjaaU1
import Derived.StillTailTactics
import Derived.Test.YtlapicgeokjpjaaU2
import Derived.Deep.RegionHeld3
/- Contracts: lights: sizes, copies, comparisons. -/
namespace Go.Proofs.Ytlapicgeokjpjaa
open Go.RowKit Go.PlainAid

/-- A light as it lies in memory. -/
structure LL where
  id : Int
  r : LR
  f : Int
  c : Int
abbrev llC (x : LL) : List Value := [iv x.id, iv x.r.start, .slice x.r.q x.r.fibs.length x.r.cap, iv x.f, iv x.c]
abbrev llV (x : LL) : Value := .agg #[iv x.id, iv x.r.start, .slice x.r.q x.r.fibs.length x.r.cap, iv x.f, iv x.c]
/-- A light as such: its number, its route, its block. -/
abbrev LtV := Int × (Int × List Int) × (Int × Int)
abbrev LL.val (x : LL) : LtV := (x.id, x.r.val, (x.f, x.c))
def Lts (w : World) (p : Option Addr) (l : List LL) : Prop := Cells w p (l.flatMap llC) ∧ ∀ x ∈ l, Ints w x.r.q x.r.fibs
theorem Lts.keep {w w' : World} {p : Option Addr} {l : List LL} (h : Lts w p l) (hb : Fresh w w') : Lts w' p l := ⟨h.1.keep hb, fun x hx => (h.2 x hx).keep hb⟩
theorem ll_get {l : List LL} {k : Nat} {f : LL} (hx : l[k]? = some f) (r : Nat) (hr : r < 5) : (l.flatMap llC)[k * 5 + r]? = (llC f)[r]? := flat_get llC 5 (fun _ => rfl) l k r hr f hx
theorem Lts.at {w : World} {p : Option Addr} {l : List LL} (h : Lts w p l) {k : Nat} (hk : k < l.length) :
    ∃ b off x, p = some ⟨b, off, none⟩ ∧ l[k]? = some x ∧ x ∈ l ∧ Ints w x.r.q x.r.fibs ∧ w.cell? ⟨b, off + k * 5, none⟩ = some (.int .i64 x.id) ∧ w.cell? ⟨b, off + k * 5 + 1, none⟩ = some (.int .i64 x.r.start) ∧ w.cell? ⟨b, off + k * 5 + 2, none⟩ = some (.slice x.r.q x.r.fibs.length x.r.cap) ∧ w.cell? ⟨b, off + k * 5 + 3, none⟩ = some (.int .i64 x.f) ∧ w.cell? ⟨b, off + k * 5 + 4, none⟩ = some (.int .i64 x.c) := by
  obtain ⟨b, off, rfl, hc⟩ := Cells.at h.1 (k := k) (by rw [flat_len llC 5 (fun _ => rfl)]; omega)
  have hx : l[k]? = some l[k] := by simp [hk]
  refine ⟨b, off, _, rfl, hx, List.getElem_mem hk, h.2 _ (List.getElem_mem hk), hc _ _ ?_, ?_, ?_, ?_, ?_⟩
  · have := ll_get hx 0 (by omega); simpa using this
  · have := hc (k * 5 + 1) _ (by rw [ll_get hx 1 (by omega)]; rfl); rw [← Nat.add_assoc] at this; exact this
  · have := hc (k * 5 + 2) _ (by rw [ll_get hx 2 (by omega)]; rfl); rw [← Nat.add_assoc] at this; exact this
  · have := hc (k * 5 + 3) _ (by rw [ll_get hx 3 (by omega)]; rfl); rw [← Nat.add_assoc] at this; exact this
  · have := hc (k * 5 + 4) _ (by rw [ll_get hx 4 (by omega)]; rfl); rw [← Nat.add_assoc] at this; exact this

def LtsSmall (l : List LL) : Prop := l.length ≤ 1048576 ∧ ∀ x ∈ l, x.r.fibs.length ≤ 1048576
/-- Two variables that were laid one after the other. -/
theorem two_rows (w : World) (xs ys : List Value) (t1 t2 : TypeId) : ∃ W2, W2 = (w.alloc (.cells xs.toArray t1)).alloc (.cells ys.toArray t2) ∧ W2.heap.size = w.heap.size + 1 + 1 ∧ Fresh w W2 ∧ RowAt W2 w.heap.size t1 xs ∧ RowAt W2 (w.heap.size + 1) t2 ys := by
  refine ⟨_, rfl, by simp, fnew (fnew (frefl _) _) _, (RowAt.new w _ xs).alloc _, ?_⟩
  have := RowAt.new (w.alloc (.cells xs.toArray t1)) t2 ys
  simpa using this

def OutLight (w : World) (x : LL) (e : Ending) (w' : World) : Prop := ∃ y : LL, e = .returned (llV y) ∧ y.val = x.val ∧ Own w' w.heap.size 3 y.r.q (y.r.fibs.map iv) ∧ Fresh w w'
abbrev zLt : List Value := [iv 0, iv 0, .slice none 0 0, iv 0, iv 0]
end Go.Proofs.Ytlapicgeokjpjaa

/- Contracts: lists of lights copied and compared. -/
namespace Go.Proofs.Ytlapicgeokjpjaa
open Go.RowKit Go.PlainAid

theorem setL_rowL (f : LL → List Value) (l' : List LL) (a : LL) (m : Nat) (z : List Value) (hf : ∀ x, (f x).length = z.length) : setL (l'.flatMap f ++ zs z (m + 1)) (l'.length * z.length) (f a) = (l' ++ [a]).flatMap f ++ zs z m := by
  have hl : (l'.flatMap f).length = l'.length * z.length := flat_len f z.length hf l'
  rw [zs_succ, ← hl, setL_mid (f a) _ z _ (by rw [hf])]
  simp

end Go.Proofs.Ytlapicgeokjpjaa

/- Contracts: plans: sizes, copies, comparisons; plans as one value. -/
namespace Go.Proofs.Ytlapicgeokjpjaa
open Go.RowKit Go.PlainAid

/-- A plan as such. -/
structure PlanV where
  net : Net
  lights : List LtV
def PlRaw (w : World) (v : Value) (P : PlanV) : Prop := ∃ q m c p k d r e l, v = .agg #[.slice q m c, .slice p k d, .slice r l.length e] ∧ NetRaw w (.agg #[.slice q m c, .slice p k d]) P.net ∧ Lts w r l ∧ l.length ≤ 9223372036854775807 ∧ (∀ x ∈ l, x.r.fibs.length ≤ 9223372036854775807) ∧ P.lights = l.map LL.val ∧ l.length ≤ e ∧ e ≤ 9223372036854775807
def LtSm (L : List LtV) : Prop := L.length ≤ 1048576 ∧ ∀ x ∈ L, x.2.1.2.length ≤ 1048576
def PlSmall (P : PlanV) : Prop := NetSmall P.net ∧ LtSm P.lights
def PlIn (w : World) (v : Value) (P : PlanV) : Prop := ∃ q m c p k d r e l, v = .agg #[.slice q m c, .slice p k d, .slice r l.length e] ∧ NetIn w (.agg #[.slice q m c, .slice p k d]) P.net ∧ Lts w r l ∧ LtsSmall l ∧ P.lights = l.map LL.val ∧ l.length ≤ e ∧ e ≤ 9223372036854775807
theorem PlRaw.keep {w w' : World} {v : Value} {P : PlanV} (h : PlRaw w v P) (hb : Fresh w w') : PlRaw w' v P := by
  obtain ⟨q, m, c, p, k, d, r, e, l, h1, h2, h3, h4⟩ := h
  exact ⟨q, m, c, p, k, d, r, e, l, h1, h2.keep hb, h3.keep hb, h4⟩
theorem PlIn.keep {w w' : World} {v : Value} {P : PlanV} (h : PlIn w v P) (hb : Fresh w w') : PlIn w' v P := by
  obtain ⟨q, m, c, p, k, d, r, e, l, h1, h2, h3, h4⟩ := h
  exact ⟨q, m, c, p, k, d, r, e, l, h1, h2.keep hb, h3.keep hb, h4⟩
theorem PlRaw.shape {w : World} {v : Value} {P : PlanV} (h : PlRaw w v P) : ∃ q m c p k d r i e, v = .agg #[.slice q m c, .slice p k d, .slice r i e] := by
  obtain ⟨q, m, c, p, k, d, r, e, l, h1, _⟩ := h
  exact ⟨_, _, _, _, _, _, _, _, _, h1⟩
theorem PlIn.shape {w : World} {v : Value} {P : PlanV} (h : PlIn w v P) : ∃ q m c p k d r i e, v = .agg #[.slice q m c, .slice p k d, .slice r i e] := by
  obtain ⟨q, m, c, p, k, d, r, e, l, h1, _⟩ := h
  exact ⟨_, _, _, _, _, _, _, _, _, h1⟩
theorem ltsm_of {l : List LL} (h : LtsSmall l) : LtSm (l.map LL.val) := by
  refine ⟨by simpa using h.1, fun x hx => ?_⟩
  obtain ⟨y, hy, rfl⟩ := List.mem_map.1 hx
  exact h.2 y hy
theorem ltsm_to {l : List LL} (h : LtSm (l.map LL.val)) : LtsSmall l := ⟨by simpa using h.1, fun x hx => h.2 x.val (List.mem_map_of_mem hx)⟩
theorem PlRaw.small {w : World} {v : Value} {P : PlanV} (h : PlRaw w v P) (hs : PlSmall P) : PlIn w v P := by
  obtain ⟨q, m, c, p, k, d, r, e, l, h1, h2, h3, _, _, h4, h5⟩ := h
  exact ⟨q, m, c, p, k, d, r, e, l, h1, h2.small hs.1, h3, ltsm_to (by rw [← h4]; exact hs.2), h4, h5⟩
theorem PlIn.isSmall {w : World} {v : Value} {P : PlanV} (h : PlIn w v P) : PlSmall P := by
  obtain ⟨q, m, c, p, k, d, r, e, l, h1, h2, h3, h4, h5, _⟩ := h
  exact ⟨h2.isSmall, by rw [h5]; exact ltsm_of h4⟩

theorem NetOwn.setOther {w : World} {base : Nat} {v : Value} {n : Net} (h : NetOwn w base v n) {b o : Nat} (hb : b < base) (u : Value) : NetOwn (w.setCell ⟨b, o, none⟩ u) base v n := by
  obtain ⟨g1, g2, h1, h2, h3, h4, h5⟩ := h
  exact ⟨g1, g2, h1, h2, h3, h4.setOther (by omega) u, h5.setOther (by omega) u⟩
end Go.Proofs.Ytlapicgeokjpjaa

/- Contracts: lights: valid ones, colliding ones, both sides. -/
namespace Go.Proofs.Ytlapicgeokjpjaa
open Go.RowKit Go.PlainAid

def ltB (n : Net) (x : LtV) : Bool := inB x.1 1 999 && isVis n x.2.1.1 x.2.1.2 && goodB x.2.2.1 x.2.2.2
def meetB (x y : Int × Int) : Bool := !(bits BinOp.and IntKind.i64 (mkF x.1 x.2) (mkF y.1 y.2) == 0)
def colB (x y : LtV) : Bool := meetB x.2.2 y.2.2 && usesB x.2.1.2 y.2.1.2

theorem any_step {a : List Int} {f : Int → Bool} {k : Nat} {x : Int} (h : ∀ j y, j < k → a[j]? = some y → f y = false) (hx : a[k]? = some x) (hf : f x = false) : ∀ j y, j < k + 1 → a[j]? = some y → f y = false := by
  intro j y hj hy
  rcases Nat.lt_or_ge j k with h' | h'
  · exact h j y h' hy
  · have : j = k := by omega
    subst this; rw [hx] at hy; cases hy; exact hf
theorem any_none {a : List Int} {f : Int → Bool} {k : Nat} (hk : a.length ≤ k) (h : ∀ j y, j < k → a[j]? = some y → f y = false) : a.any f = false := by
  rw [List.any_eq_false]
  intro x hx
  obtain ⟨j, hj, rfl⟩ := List.getElem_of_mem hx
  simp [h j _ (by omega) (List.getElem?_eq_getElem hj)]

end Go.Proofs.Ytlapicgeokjpjaa

/- Contracts: colliding lights, both sides. -/
namespace Go.Proofs.Ytlapicgeokjpjaa
open Go.RowKit Go.PlainAid

end Go.Proofs.Ytlapicgeokjpjaa

/- Contracts: valid plans, the reference's side. -/
namespace Go.Proofs.Ytlapicgeokjpjaa
open Go.RowKit Go.PlainAid

theorem ltB_good {n : Net} {x : LtV} (h : ltB n x = true) : goodB x.2.2.1 x.2.2.2 = true := by unfold ltB at h; simp only [Bool.and_eq_true] at h; exact h.2
/-- What is asked of the light at an index. -/
def orderB (L : List LtV) (k : Nat) (x : LtV) : Bool := match L[k - 1]? with | some y => decide (k = 0) || decide (y.1 < x.1) | none => true
def ltAt (n : Net) (L : List LtV) (k : Nat) : Bool := match L[k]? with | some x => ltB n x && orderB L k x && !((L.take k).any fun y => colB y x) | none => true
def planB (P : PlanV) : Bool := netB P.net && decide (P.lights.length ≤ 12) && (List.range P.lights.length).all (ltAt P.net P.lights)
theorem ltAt_of {n : Net} {L : List LtV} {k : Nat} {x : LtV} (hx : L[k]? = some x) : ltAt n L k = (ltB n x && orderB L k x && !((L.take k).any fun y => colB y x)) := by unfold ltAt; rw [hx]
theorem order_first (L : List LtV) (x : LtV) : orderB L 0 x = true := by unfold orderB; split <;> simp
theorem order_next {L : List LtV} {k : Nat} {x y : LtV} (h0 : 0 < k) (hy : L[k - 1]? = some y) : orderB L k x = decide (y.1 < x.1) := by
  unfold orderB; rw [hy]; simp only
  rw [decide_eq_false (by omega), Bool.false_or]
theorem planB_net {P : PlanV} (h : netB P.net = false) : planB P = false := by unfold planB; rw [h]; rfl
theorem planB_long {P : PlanV} (h : ¬ P.lights.length ≤ 12) : planB P = false := by unfold planB; rw [decide_eq_false h]; simp
theorem planB_bad {P : PlanV} {k : Nat} (hk : k < P.lights.length) (h : ltAt P.net P.lights k = false) : planB P = false := by unfold planB; rw [rall_bad hk h, Bool.and_false]
theorem planB_end {P : PlanV} (h1 : netB P.net = true) (h2 : P.lights.length ≤ 12) (h : ∀ k, k < P.lights.length → ltAt P.net P.lights k = true) : planB P = true := by unfold planB; rw [h1, decide_eq_true h2, rall_end h]; rfl
theorem planB_at {P : PlanV} (h : planB P = true) : netB P.net = true ∧ P.lights.length ≤ 12 ∧ ∀ k, k < P.lights.length → ltAt P.net P.lights k = true := by
  unfold planB at h
  simp only [Bool.and_eq_true, decide_eq_true_eq, List.all_eq_true, List.mem_range] at h
  exact ⟨h.1.1, h.1.2, h.2⟩
theorem ltAt_good {n : Net} {L : List LtV} {k : Nat} {x : LtV} (hx : L[k]? = some x) (h : ltAt n L k = true) : ltB n x = true := by
  rw [ltAt_of hx] at h; simp only [Bool.and_eq_true] at h; exact h.1.1
theorem planB_lt {P : PlanV} (h : planB P = true) : ∀ x ∈ P.lights, ltB P.net x = true := by
  intro x hx
  obtain ⟨_, _, h3⟩ := planB_at h
  obtain ⟨k, hk, rfl⟩ := List.getElem_of_mem hx
  exact ltAt_good (List.getElem?_eq_getElem hk) (h3 k hk)
theorem okStepL {f : Nat → Bool} {k : Nat} (h : ∀ j, j < k → f j = true) (hk : f k = true) : ∀ j, j < k + 1 → f j = true := by
  intro j hj
  rcases Nat.lt_or_ge j k with h' | h'
  · exact h j h'
  · have : j = k := by omega
    subst this; exact hk
theorem lval_at {l : List LL} {L : List LtV} (hv : L = l.map LL.val) {k : Nat} {x : LL} (hx : l[k]? = some x) : L[k]? = some x.val := by rw [hv]; simp [hx]
theorem Lts.prev {w : World} {b off : Nat} {l : List LL} (h : Lts w (some ⟨b, off, none⟩) l) {k : Nat} (hk : k < l.length) (h0 : 0 < k) :
    ∃ y, l[k - 1]? = some y ∧ w.cell? ⟨b, off + (k - 1) * 5, none⟩ = some (.int .i64 y.id) := by
  obtain ⟨b', off', y, hp, hy, _, _, hc, _⟩ := h.at (k := k - 1) (by omega)
  cases hp
  exact ⟨y, hy, hc⟩
theorem noneYet {L : List LtV} {x : LtV} {j : Nat} {y : LtV} (h : ∀ i y, i < j → L[i]? = some y → colB y x = false) (hy : L[j]? = some y) (hc : colB y x = false) : ∀ i y, i < j + 1 → L[i]? = some y → colB y x = false := by
  intro i z hi hz
  rcases Nat.lt_or_ge i j with h' | h'
  · exact h i z h' hz
  · have : i = j := by omega
    subst this; rw [hy] at hz; cases hz; exact hc
theorem noneAll {L : List LtV} {x : LtV} {k : Nat} (h : ∀ i y, i < k → L[i]? = some y → colB y x = false) : ((L.take k).any fun y => colB y x) = false := by
  rw [List.any_eq_false]
  intro y hy
  obtain ⟨i, hi, rfl⟩ := List.getElem_of_mem hy
  have hl : (L.take k).length ≤ k := by simp; omega
  have := h i (L.take k)[i] (by omega) (by rw [List.getElem_take]; exact List.getElem?_eq_getElem (by simp at hi; omega))
  rw [List.getElem_take] at this ⊢
  simp [this]
theorem someOne {L : List LtV} {x y : LtV} {k j : Nat} (hj : j < k) (hy : L[j]? = some y) (hc : colB y x = true) : ((L.take k).any fun y => colB y x) = true := by
  rw [List.any_eq_true]
  exact ⟨y, List.mem_of_getElem? (i := j) (by rw [List.getElem?_take_of_lt hj]; exact hy), hc⟩

end Go.Proofs.Ytlapicgeokjpjaa

/- Contracts: valid plans, the program's side. -/
namespace Go.Proofs.Ytlapicgeokjpjaa
open Go.RowKit Go.PlainAid

theorem Lts.take {w : World} {p : Option Addr} {l : List LL} (h : Lts w p l) (k : Nat) : Lts w p (l.take k) := by
  refine ⟨?_, fun x hx => h.2 x (List.mem_of_mem_take hx)⟩
  rcases h.1 with h1 | ⟨b, off, rfl, hc⟩
  · left
    rw [List.flatMap_eq_nil_iff] at h1 ⊢
    exact fun x hx => h1 x (List.mem_of_mem_take hx)
  · right
    refine ⟨b, off, rfl, fun i v hv => hc i v ?_⟩
    have e : l.flatMap llC = (l.take k).flatMap llC ++ (l.drop k).flatMap llC := by rw [← List.flatMap_append, List.take_append_drop]
    rw [e, List.getElem?_append_left]
    · exact hv
    · rcases Nat.lt_or_ge i ((l.take k).flatMap llC).length with h' | h'
      · exact h'
      · rw [List.getElem?_eq_none h'] at hv; cases hv

end Go.Proofs.Ytlapicgeokjpjaa

/- Contracts: valid plans, the program's side. -/
namespace Go.Proofs.Ytlapicgeokjpjaa
open Go.RowKit Go.PlainAid

theorem any_take_val {l : List LL} {L : List LtV} (hv : L = l.map LL.val) (k : Nat) (x : LtV) : ((l.take k).any fun y => colB y.val x) = ((L.take k).any fun y => colB y x) := by
  rw [hv, ← List.map_take, List.any_map]; rfl

end Go.Proofs.Ytlapicgeokjpjaa

/- Plans, lights, routes that came in, as one value. -/
namespace Go.Proofs.Ytlapicgeokjpjaa
open Go.RowKit Go.ChangeShapes Go.WideShapes Go.ChangeAt Go.Joins

instance : Inhabited LL := ⟨⟨0, default, 0, 0⟩⟩
section
variable {H : Type} {enc : TypeId × Value → H}
end
end Go.Proofs.Ytlapicgeokjpjaa

/- Slices of structs of two ints: what they read as, appending one; lists of blocks copied and compared, as one value. -/
namespace Go.Proofs.Ytlapicgeokjpjaa
open Go.RowKit

/-- The two cells of a pair. -/
def pc (b : Int × Int) : List Value := [iv b.1, iv b.2]
def pcs (l : List (Int × Int)) : List Value := l.flatMap pc
theorem pcs_nil : pcs [] = [] := rfl
theorem pcs_app (l r : List (Int × Int)) : pcs (l ++ r) = pcs l ++ pcs r := by simp [pcs]
theorem pcs_cons (b : Int × Int) (l : List (Int × Int)) : pcs (b :: l) = iv b.1 :: iv b.2 :: pcs l := rfl
theorem pcs_len (l : List (Int × Int)) : (pcs l).length = l.length * 2 := by
  induction l with
  | nil => rfl
  | cons b l ih => rw [pcs_cons, List.length_cons, List.length_cons, ih, List.length_cons]; omega
theorem pcs_get {l : List (Int × Int)} {k : Nat} {b : Int × Int} (h : l[k]? = some b) : (pcs l)[k * 2]? = some (iv b.1) ∧ (pcs l)[k * 2 + 1]? = some (iv b.2) := by
  induction l generalizing k with
  | nil => simp at h
  | cons c l ih =>
    rw [pcs_cons]
    cases k with
    | zero => simp at h; subst h; exact ⟨rfl, rfl⟩
    | succ k =>
      have h' : l[k]? = some b := by simpa using h
      have e : (k + 1) * 2 = k * 2 + 1 + 1 := by omega
      obtain ⟨i1, i2⟩ := ih h'
      rw [e]
      exact ⟨by rw [List.getElem?_cons_succ, List.getElem?_cons_succ]; exact i1, by rw [List.getElem?_cons_succ, List.getElem?_cons_succ]; exact i2⟩
/-- A slice of pairs. -/
def Prs (w : World) (p : Option Addr) (l : List (Int × Int)) : Prop := Cells w p (pcs l)
theorem Prs.keep {w w' : World} {p : Option Addr} {l : List (Int × Int)} (h : Prs w p l) (hb : Fresh w w') : Prs w' p l := Cells.keep h hb
theorem Prs.at {w : World} {p : Option Addr} {l : List (Int × Int)} (h : Prs w p l) {k : Nat} (hk : k < l.length) :
    ∃ b off x y, p = some ⟨b, off, none⟩ ∧ l[k]? = some (x, y) ∧ w.cell? ⟨b, off + k * 2, none⟩ = some (.int .i64 x) ∧ w.cell? ⟨b, off + k * 2 + 1, none⟩ = some (.int .i64 y) := by
  obtain ⟨b, off, rfl, hc⟩ := Cells.at h (k := 0) (by rw [pcs_len]; omega)
  have hx : l[k]? = some (l[k].1, l[k].2) := by simp [hk]
  obtain ⟨h1, h2⟩ := pcs_get hx
  exact ⟨b, off, l[k].1, l[k].2, rfl, hx, hc _ _ h1, by rw [Nat.add_assoc]; exact hc _ _ h2⟩
theorem Own.prs {w : World} {base : Nat} {t : TypeId} {p : Option Addr} {l : List (Int × Int)} (h : Own w base t p (pcs l)) : Prs w p l := h.cells

/-- One pair appended to a row of the call's own. -/
theorem wpList_app_prs {T E : TypeId} (hu : Try.prog.underlying T = some (.slice E)) (hinfo : (Try.prog.info? E).map (fun i => (i.zero, i.size, i.bytes)) = some (some (.agg #[.int .i64 0, .int .i64 0]), 2, 16))
    {ops : Array Oper} {rest : List Oper} {o : Oper} {a : Act} {Q : Exit → Act → World → Prop} (w0 w1 : World) (v : Value) (l : List (Int × Int)) (x y : Int) (hgd : o.guard = none) (s t : Operand)
    (ho : o.op = .call { callee := .builtin .append, args := #[s, t], argTypes := #[T, T] }) (hs : a.eval s = v) (hown : w1.ownsRow w0.heap.size E 2 v l.length (pcs l))
    (hx : a.eval t = .slice (some ⟨w1.heap.size, 0, none⟩) 1 1) (hn : l.length ≤ 1099511627776) (hf : Fresh w0 w1)
    (h : ∀ v' w', w'.ownsRow w0.heap.size E 2 v' (l ++ [(x, y)]).length (pcs (l ++ [(x, y)])) → Fresh w0 w' → wpList Try.prog ops Q rest (a.put o.dst v') w') :
    wpList Try.prog ops Q (o :: rest) a (w1.alloc (.cells #[.int .i64 x, .int .i64 y] E)) := by
  obtain ⟨i0, hi, hz0, hz1, hz2⟩ := info_parts hinfo
  refine wpList_append_own _ hgd s t T ho w0.heap.size E i0 (.agg #[.int .i64 0, .int .i64 0]) 2 16 hu hi hz0 hz1 hz2 rfl (by decide) v l.length (pcs l) hs (hown.alloc _) ⟨w1.heap.size, 0, none⟩ 1 1 [iv x, iv y] hx rfl (cell_two_new _ _ _ _)
    (by intro u hu; simp at hu; rcases hu with rfl | rfl <;> rfl) (by unfold maxLen; omega) (by omega) (Nat.le_trans hf.size (by simp)) ?_
  intro v' w' hown' hgrow _
  refine h v' w' ?_ (fgrown (fnew hf _) hgrow (own_block hown))
  rw [pcs_app, List.length_append]
  exact hown'

theorem madeCells_two (n : Nat) : madeCells #[iv 0, iv 0] n = (List.replicate n (iv 0)).toArray := by
  apply Array.ext
  · simp [madeCells]
  · intro i h1 h2
    have h : i % 2 = 0 ∨ i % 2 = 1 := by omega
    rcases h with h | h <;> simp [madeCells, h]
theorem mkPrs {T E : TypeId} (hu : Try.prog.underlying T = some (.slice E)) (hinfo : (Try.prog.info? E).map (fun i => (i.zero, i.size, i.bytes)) = some (some (.agg #[.int .i64 0, .int .i64 0]), 2, 16)) (n : Nat) (hn : n * 16 ≤ 281474976710656) (u : World) :
    (Instr.makeSlice T (.int .i64 (n : Int)) (.int .i64 (n : Int))).run Try.prog u = .ok (.slice (some ⟨u.heap.size, 0, none⟩) n n) (u.alloc (.cells ((List.replicate (n * 2) (iv 0)).toArray) E)) := by
  obtain ⟨i0, hi, hz0, hz1, hz2⟩ := info_parts hinfo
  have h := run_make (P := Try.prog) u T E i0 _ hu hi hz0 .i64 .i64 n n (by omega) (Int.le_refl _) (by rw [hz2]; omega) (by omega)
  rw [Int.toNat_natCast, hz1] at h
  rw [← madeCells_two]
  simpa [Value.cells] using h
theorem set_prs (l : List (Int × Int)) (k : Nat) (x y : Int) (hx : l[k]? = some (x, y)) :
    (((pcs (l.take k) ++ List.replicate ((l.length - k) * 2) (iv 0)).set (k * 2) (iv x)).set (k * 2 + 1) (iv y)) = pcs (l.take (k + 1)) ++ List.replicate ((l.length - (k + 1)) * 2) (iv 0) := by
  have hk : k < l.length := by
    rcases Nat.lt_or_ge k l.length with h | h
    · exact h
    · rw [List.getElem?_eq_none h] at hx; cases hx
  have hl : (pcs (l.take k)).length = k * 2 := by rw [pcs_len, List.length_take]; omega
  have e : (l.length - k) * 2 = (l.length - (k + 1)) * 2 + 1 + 1 := by omega
  have e2 : k * 2 + 1 - k * 2 = 0 + 1 := by omega
  rw [e, List.replicate_succ, List.replicate_succ, List.set_append, if_neg (by omega), hl, Nat.sub_self, List.set_cons_zero, List.set_append, if_neg (by omega), hl, e2, List.set_cons_succ, List.set_cons_zero,
    List.take_add_one, hx, pcs_app]
  simp [pcs, pc]
theorem get_prs0 (l : List (Int × Int)) (k : Nat) (hk : k < l.length) :
    (pcs (l.take k) ++ List.replicate ((l.length - k) * 2) (iv 0))[k * 2]? = some (iv 0) ∧ (pcs (l.take k) ++ List.replicate ((l.length - k) * 2) (iv 0))[k * 2 + 1]? = some (iv 0) := by
  have hl : (pcs (l.take k)).length = k * 2 := by rw [pcs_len, List.length_take]; omega
  have e : (l.length - k) * 2 = (l.length - (k + 1)) * 2 + 1 + 1 := by omega
  have e2 : k * 2 + 1 - k * 2 = 0 + 1 := by omega
  rw [e, List.replicate_succ, List.replicate_succ, List.getElem?_append_right (by omega), List.getElem?_append_right (by omega), hl, Nat.sub_self, e2]
  exact ⟨rfl, rfl⟩
theorem prs_end (l : List (Int × Int)) (k : Nat) (hk : l.length ≤ k) : pcs (l.take k) ++ List.replicate ((l.length - k) * 2) (iv 0) = pcs l := by
  rw [List.take_of_length_le hk, Nat.sub_eq_zero_of_le hk, Nat.zero_mul, List.replicate_zero, List.append_nil]

def BkRaw (w : World) (v : Value) (L : List (Int × Int)) : Prop := ∃ p cap, v = .slice p L.length cap ∧ Prs w p L ∧ L.length ≤ 9223372036854775807
def BkSmall (L : List (Int × Int)) : Prop := L.length ≤ 1048576
def BkIn (w : World) (v : Value) (L : List (Int × Int)) : Prop := ∃ p cap, v = .slice p L.length cap ∧ Prs w p L ∧ L.length ≤ 1048576
theorem BkRaw.keep {w w' : World} {v : Value} {L : List (Int × Int)} (h : BkRaw w v L) (hb : Fresh w w') : BkRaw w' v L := by
  obtain ⟨p, cap, h1, h2, r⟩ := h
  exact ⟨p, cap, h1, h2.keep hb, r⟩
theorem BkIn.keep {w w' : World} {v : Value} {L : List (Int × Int)} (h : BkIn w v L) (hb : Fresh w w') : BkIn w' v L := by
  obtain ⟨p, cap, h1, h2, r⟩ := h
  exact ⟨p, cap, h1, h2.keep hb, r⟩
theorem BkRaw.small {w : World} {v : Value} {L : List (Int × Int)} (h : BkRaw w v L) (hs : BkSmall L) : BkIn w v L := by
  obtain ⟨p, cap, h1, h2, _⟩ := h
  exact ⟨p, cap, h1, h2, hs⟩
end Go.Proofs.Ytlapicgeokjpjaa

/- Blocks that came in, as one value. -/
namespace Go.Proofs.Ytlapicgeokjpjaa
open Go.RowKit Go.ChangeShapes Go.WideShapes Go.ChangeAt Go.Joins
end Go.Proofs.Ytlapicgeokjpjaa

