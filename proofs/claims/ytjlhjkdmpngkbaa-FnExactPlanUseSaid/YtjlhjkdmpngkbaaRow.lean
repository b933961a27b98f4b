/- The frame of a law's row: what a call that leaves old memory alone owes of its arguments and its one bool. -/
import Derived.Test.YtjlhjkdmpngkbaaBase
import Derived.ProofKit
import Derived.OpenShut
import Derived.Lib.SmallJoins
import Derived.Deep.Slices
namespace Go.Proofs.Ytjlhjkdmpngkbaa
open Go.RowKit Go.ChangeShapes Go.WideShapes Go.ChangeAt Go.Joins

theorem own : ownKnob Try.prog.godebug = none := by kernel_rfl
theorem laidOut : laidOutB Try.prog = true := by kernel_rfl

section
variable {H : Type} {enc : TypeId × Value → H} {P : Program}
theorem trodAll_fresh (hl : laidOutB P = true) {W W' : World} (hb : Fresh W W') : ∀ (ts : List TypeId) (vs : List Value) (ds : List (DataW H)) (ps : List MemPlace),
    (∀ t ∈ ts, P.readableRec t = true ∧ t < P.types.size) → DataW.TrodAll enc P W 0 (fun _ => true) true ts vs ds ps →
    DataW.TrodAll enc P W' 0 (fun b => decide (b < W.heap.size)) true ts vs ds ps := by
  intro ts
  induction ts with
  | nil => intro vs ds ps _ h; obtain ⟨rfl, rfl, rfl⟩ := trodAll_nil h; exact trodAll_mk0
  | cons t ts ih =>
    intro vs ds ps ht h
    have hlt := DataW.TrodAll.lt h
    obtain ⟨v, vs', d, ds', p, q, rfl, rfl, rfl, h0, hr⟩ := trodAll_cons h
    refine trodAll_cons_mk ?_ (ih _ _ _ (fun u hu => ht u (List.mem_cons_of_mem _ hu)) hr)
    exact Below.trod hl (ht t List.mem_cons_self).1 (ht t List.mem_cons_self).2 h0 hb fun x hx => hlt x (List.mem_append_left _ hx)

theorem post_fresh {f : Func} {s : ChangeSpec} {tb : TypeId} {W W' : World} {args : Array Value} {ds gs : List (DataW H)} {before : List MemPlace} (hl : laidOutB P = true)
    (hread : ∀ t ∈ f.params.toList, P.readableRec t = true ∧ t < P.types.size) (hres : f.resultTypes = #[tb]) (hub : P.underlying tb = some .bool) (hv : s.vars = [])
    (hs : s.fn H ds = { results := [.lit (.bool true)], args := ds })
    (hW : DataW.Whole enc P f.params.toList s.vars false W args.toList ds gs before) (hb : Fresh W W') : s.post enc P f false true false false W args (.bool true) W' := by
  have hW' := hW
  obtain ⟨p, q, hA, hV, rfl, hfz, hnd⟩ := hW
  rw [hv] at hV
  obtain ⟨rfl, rfl⟩ := trodVars_none hV
  have e : s.fn H (ds ++ []) = { results := [.lit (.bool true)], args := ds } := by rw [List.append_nil]; exact hs
  have hA' := trodAll_fresh (enc := enc) hl hb _ _ _ _ hread hA
  refine ⟨ds, [], p ++ [], [], p, [], hW', ?_, ?_, ?_, hb.frame _, fun h => by cases h⟩
  · rw [e, hres]; exact trodAll_mk1 (shut_bool hub true)
  · rw [e]; exact hA'
  · rw [e, hv]; exact rfl

/-- A slice that came in, element by element. -/
theorem slice_of_trod {α : Type} [Inhabited α] (f : α → List Value) (good : α → Prop) {t e : TypeId} {n : Nat} (ht : P.underlying t = some (.slice e)) (hc : P.cellsOf e = n) (hn : 0 < n) (hf : ∀ a, (f a).length = n) {W : World}
    (hread : ∀ fuel cs x, DataW.trod enc P W 0 (fun _ => true) true fuel e cs = some x → ∃ a, cs = f a ∧ good a) {r : Reach} {b : Nat} {v : Value} {d : DataW H} {p : List MemPlace}
    (hok : Value.okWide P W r b t v) (h : DataW.Trod enc P W 0 (fun _ => true) true t v d p) :
    ∃ (q : Option Addr) (cap : Nat) (l : List α), v = .slice q l.length cap ∧ Cells W q (l.flatMap f) ∧ l.length ≤ 9223372036854775807 ∧ ∀ a ∈ l, good a := by
  obtain ⟨a0, len, cap, rfl⟩ := okWide_slice ht hok
  obtain ⟨fuel, hfu⟩ := h
  rcases Go.Deep.open_slice ht hfu with ⟨hcs, _⟩ | ⟨a, len', cap', m, nn, D, Pl, hcs, _, hl, hm, hmm, _, hel⟩
  · simp [Value.cells] at hcs
    obtain ⟨rfl, rfl, rfl⟩ := hcs
    exact ⟨none, 0, [], rfl, Or.inl rfl, by simp, by simp⟩
  · simp [Value.cells] at hcs
    obtain ⟨rfl, rfl, rfl⟩ := hcs
    rw [hc] at hel
    have hlm : len ≤ m := by simp at hmm; omega
    have each : ∀ i, i < len → ∃ x : α, good x ∧ ∀ r, r < n → W.cell? ((a.add (i * n)).add r) = (f x)[r]? := by
      intro i hi
      obtain ⟨cs', h1, h2⟩ := hel i (by omega)
      obtain ⟨x, rfl, hg⟩ := hread _ _ _ h2
      exact ⟨x, hg, (World.cells?_some h1).2.2⟩
    obtain ⟨g, hg⟩ := Go.Deep.choose_lt each
    refine ⟨some a, cap, (List.range len).map g, by simp, ?_, by simp; unfold maxLen at hm; omega, ?_⟩
    · by_cases h0 : 0 < len
      · have hc0 := (hg 0 h0).2 0 hn
        have hlen0 := hf (g 0)
        have hsome : ∃ v, (f (g 0))[0]? = some v := ⟨(f (g 0))[0]'(by omega), by rw [List.getElem?_eq_getElem]⟩
        obtain ⟨v0, hv0⟩ := hsome
        rw [hv0] at hc0
        have hspot := World.cell?_spot hc0
        obtain ⟨bb, off, spot⟩ := a
        have hs : spot = none := by simpa [Addr.add] using hspot
        subst hs
        refine Or.inr ⟨bb, off, rfl, fun i v hv => ?_⟩
        have hi : i < len * n := by
          rcases Nat.lt_or_ge i (len * n) with h | h
          · exact h
          · rw [List.getElem?_eq_none (by rw [flat_len f n hf]; simpa using h)] at hv; cases hv
        have hin : i / n < len := (Nat.div_lt_iff_lt_mul hn).2 hi
        have hrn : i % n < n := Nat.mod_lt _ hn
        have hdm : i / n * n + i % n = i := by rw [Nat.mul_comm]; exact Nat.div_add_mod i n
        have hx : ((List.range len).map g)[i / n]? = some (g (i / n)) := by simp [hin]
        rw [← hdm, flat_get f n hf _ _ _ hrn _ hx] at hv
        have := (hg _ hin).2 _ hrn
        rw [add_plain, add_plain, Nat.add_assoc, hdm] at this
        rw [this]; exact hv
      · have : len = 0 := by omega
        subst this
        exact Or.inl (by simp)
    · intro x hx
      rw [List.mem_map] at hx
      obtain ⟨i, hi, rfl⟩ := hx
      exact (hg i (List.mem_range.1 hi)).1

def In64 (x : Int) : Prop := -9223372036854775808 ≤ x ∧ x ≤ 9223372036854775807
theorem ints_of_trod {t e : TypeId} (ht : P.underlying t = some (.slice e)) (he : P.underlying e = some (.int .i64)) (hc : P.cellsOf e = 1) {W : World} {r : Reach} {b : Nat} {v : Value} {d : DataW H} {p : List MemPlace}
    (hok : Value.okWide P W r b t v) (h : DataW.Trod enc P W 0 (fun _ => true) true t v d p) :
    ∃ (q : Option Addr) (cap : Nat) (xs : List Int), v = .slice q xs.length cap ∧ Ints W q xs ∧ xs.length ≤ 9223372036854775807 ∧ ∀ x ∈ xs, In64 x := by
  obtain ⟨q, cap, l, h1, h2, h3, h4⟩ := slice_of_trod (fun x : Int => [iv x]) In64 ht hc (by omega) (fun _ => rfl) (fun fuel cs x hx => by
    obtain ⟨n, rfl, _, hw⟩ := DataW.trod_int he hx
    exact ⟨n, rfl, bounds_i64 hw⟩) hok h
  refine ⟨q, cap, l, h1, ?_, h3, h4⟩
  unfold Ints
  have e : l.map iv = l.flatMap fun x : Int => [iv x] := flat_one _ _
  rw [e]; exact h2
theorem bytes_of_trod {t e : TypeId} (ht : P.underlying t = some (.slice e)) (he : P.underlying e = some (.int .u8)) (hc : P.cellsOf e = 1) {W : World} {r : Reach} {b : Nat} {v : Value} {d : DataW H} {p : List MemPlace}
    (hok : Value.okWide P W r b t v) (h : DataW.Trod enc P W 0 (fun _ => true) true t v d p) :
    ∃ (q : Option Addr) (cap : Nat) (xs : List Int), v = .slice q xs.length cap ∧ Cells W q (xs.map (Value.int .u8)) ∧ xs.length ≤ 9223372036854775807 ∧ ∀ x ∈ xs, 0 ≤ x ∧ x ≤ 255 := by
  obtain ⟨q, cap, l, h1, h2, h3, h4⟩ := slice_of_trod (fun x : Int => [.int .u8 x]) (fun x => 0 ≤ x ∧ x ≤ 255) ht hc (by omega) (fun _ => rfl) (fun fuel cs x hx => by
    obtain ⟨n, rfl, _, hw⟩ := DataW.trod_int he hx
    exact ⟨n, rfl, bounds_u8 hw⟩) hok h
  refine ⟨q, cap, l, h1, ?_, h3, h4⟩
  have e : l.map (Value.int .u8) = l.flatMap fun x : Int => [.int .u8 x] := flat_one _ _
  rw [e]; exact h2
theorem pairs_of_trod {t e ti : TypeId} {f0 f1 : Field} (ht : P.underlying t = some (.slice e)) (he : P.underlying e = some (.struct #[f0, f1])) (hc : P.cellsOf e = 2) (hi : P.underlying ti = some (.int .i64)) (hci : P.cellsOf ti = 1)
    (ho : f0.type = ti ∧ f0.offset = 0 ∧ f1.type = ti ∧ f1.offset = 1) {W : World} {r : Reach} {b : Nat} {v : Value} {d : DataW H} {p : List MemPlace}
    (hok : Value.okWide P W r b t v) (h : DataW.Trod enc P W 0 (fun _ => true) true t v d p) :
    ∃ (q : Option Addr) (cap : Nat) (l : List (Int × Int)), v = .slice q l.length cap ∧ Cells W q (l.flatMap fun b => [iv b.1, iv b.2]) ∧ l.length ≤ 9223372036854775807 ∧ ∀ x ∈ l, True := by
  obtain ⟨o1, o2, o3, o4⟩ := ho
  exact slice_of_trod (fun b : Int × Int => [iv b.1, iv b.2]) (fun _ => True) ht hc (by omega) (fun _ => rfl) (fun fuel cs x hx => by
    obtain ⟨y0, y1, n, _, hlen, h0, h1⟩ := trod_struct2 he hx
    rw [o1, o2, hci] at h0
    rw [o3, o4, hci] at h1
    obtain ⟨a, ha, _, _⟩ := DataW.trod_int hi h0
    obtain ⟨c, hc', _, _⟩ := DataW.trod_int hi h1
    refine ⟨(a, c), ?_, trivial⟩
    rw [hc] at hlen
    match cs, hlen with
    | [u, v], _ =>
      simp at ha hc'
      rw [ha, hc']) hok h
end
end Go.Proofs.Ytjlhjkdmpngkbaa
