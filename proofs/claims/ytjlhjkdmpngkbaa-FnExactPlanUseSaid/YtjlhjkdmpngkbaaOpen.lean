/- What came in, opened cell by cell: slices of any element, lists of four ints, lists of strings, networks. -/
import Derived.Test.YtjlhjkdmpngkbaaRow
import Derived.Test.YtjlhjkdmpngkbaaData2
import Derived.ChangeArms
namespace Go.Proofs.Ytjlhjkdmpngkbaa
open Go.RowKit Go.ChangeShapes Go.WideShapes Go.ChangeAt Go.Joins

section
variable {H : Type} {enc : TypeId × Value → H} {P : Program}
set_option maxRecDepth 100000 in
/-- A slice, out of the cells in which it lies. -/
theorem slice_of_cells {α : Type} [Inhabited α] (f : α → List Value) (good : α → Prop) {t e : TypeId} {n : Nat} (ht : P.underlying t = some (.slice e)) (hc : P.cellsOf e = n) (hn : 0 < n) (hf : ∀ a, (f a).length = n) {W : World}
    (hread : ∀ fuel cs x, DataW.trod enc P W 0 (fun _ => true) true fuel e cs = some x → ∃ a, cs = f a ∧ good a) {fuel : Nat} {cs : List Value} {x : DataW H × List MemPlace}
    (hfu : DataW.trod enc P W 0 (fun _ => true) true fuel t cs = some x) :
    ∃ (q : Option Addr) (cap : Nat) (l : List α), cs = [.slice q l.length cap] ∧ Cells W q (l.flatMap f) ∧ l.length ≤ cap ∧ cap ≤ 9223372036854775807 ∧ ∀ a ∈ l, good a := by
  rcases Go.Deep.open_slice ht hfu with ⟨rfl, _⟩ | ⟨a, len, cap, m, nn, D, Pl, rfl, _, hl, hm, hmm, _, hel⟩
  · exact ⟨none, 0, [], rfl, Or.inl rfl, by simp, by simp, by simp⟩
  · rw [hc] at hel
    have hlm : len ≤ m := by simp at hmm; omega
    have each : ∀ i, i < len → ∃ x : α, good x ∧ ∀ r, r < n → W.cell? ((a.add (i * n)).add r) = (f x)[r]? := by
      intro i hi
      obtain ⟨cs', h1, h2⟩ := hel i (by omega)
      obtain ⟨x, rfl, hg⟩ := hread _ _ _ h2
      exact ⟨x, hg, (World.cells?_some h1).2.2⟩
    obtain ⟨g, hg⟩ := Go.Deep.choose_lt each
    refine ⟨some a, cap, (List.range len).map g, by simp, ?_, by simpa using hl, by unfold maxLen at hm; omega, ?_⟩
    · by_cases h0 : 0 < len
      · have hc0 := (hg 0 h0).2 0 hn
        have hlen0 := hf (g 0)
        have hsome : ∃ v, (f (g 0))[0]? = some v := ⟨(f (g 0))[0]'(by omega), by rw [List.getElem?_eq_getElem]⟩
        obtain ⟨v0, hv0⟩ := hsome
        rw [hv0] at hc0
        have hspot := World.cell?_spot hc0
        obtain ⟨bb, off, spot⟩ := a
        have hs : spot = none := by simpa [Addr.add] using hspot
        subst hs
        refine Or.inr ⟨bb, off, rfl, fun i v hv => ?_⟩
        have hi : i < len * n := by
          rcases Nat.lt_or_ge i (len * n) with h | h
          · exact h
          · rw [List.getElem?_eq_none (by rw [flat_len f n hf]; simpa using h)] at hv; cases hv
        have hin : i / n < len := (Nat.div_lt_iff_lt_mul hn).2 hi
        have hrn : i % n < n := Nat.mod_lt _ hn
        have hdm : i / n * n + i % n = i := by rw [Nat.mul_comm]; exact Nat.div_add_mod i n
        have hx : ((List.range len).map g)[i / n]? = some (g (i / n)) := by simp [hin]
        rw [← hdm, flat_get f n hf _ _ _ hrn _ hx] at hv
        have := (hg _ hin).2 _ hrn
        rw [add_plain, add_plain, Nat.add_assoc, hdm] at this
        rw [this]; exact hv
      · have : len = 0 := by omega
        subst this
        exact Or.inl (by simp)
    · intro x hx
      rw [List.mem_map] at hx
      obtain ⟨i, hi, rfl⟩ := hx
      exact (hg i (List.mem_range.1 hi)).1

instance : Inhabited Fib := ⟨⟨0, 0, 0, 0⟩⟩
theorem strs_of_cells {t e : TypeId} (ht : P.underlying t = some (.slice e)) (he : P.underlying e = some .string) (hc : P.cellsOf e = 1) {W : World} {fuel : Nat} {cs : List Value} {x : DataW H × List MemPlace}
    (hfu : DataW.trod enc P W 0 (fun _ => true) true fuel t cs = some x) :
    ∃ (q : Option Addr) (cap : Nat) (l : List ByteArray), cs = [.slice q l.length cap] ∧ Strs W q l ∧ l.length ≤ cap ∧ cap ≤ 9223372036854775807 ∧ ∀ s ∈ l, s.size ≤ 9223372036854775807 := by
  obtain ⟨q, cap, l, h1, h2, h3, h4, h5⟩ := slice_of_cells strC (fun s => s.size ≤ 9223372036854775807) ht hc (by omega) (fun _ => rfl) (fun fuel cs x hx => by
    obtain ⟨s, rfl, _, hw⟩ := DataW.trod_string he hx
    exact ⟨s, rfl, by unfold maxLen at hw; omega⟩) hfu
  exact ⟨q, cap, l, h1, by unfold Strs; rw [strs_flat]; exact h2, h3, h4, h5⟩
/-- Four ints in a row. -/
theorem four_of_cells {t ti : TypeId} {f0 f1 f2 f3 : Field} (he : P.underlying t = some (.struct #[f0, f1, f2, f3])) (hc : P.cellsOf t = 4) (hi : P.underlying ti = some (.int .i64)) (hci : P.cellsOf ti = 1)
    (ho : (f0.type = ti ∧ f0.offset = 0) ∧ (f1.type = ti ∧ f1.offset = 1) ∧ (f2.type = ti ∧ f2.offset = 2) ∧ (f3.type = ti ∧ f3.offset = 3)) {W : World} {fuel : Nat} {cs : List Value} {x : DataW H × List MemPlace}
    (hfu : DataW.trod enc P W 0 (fun _ => true) true fuel t cs = some x) : ∃ a : Fib, cs = fibC a ∧ (In64 a.a ∧ In64 a.b ∧ In64 a.len ∧ In64 a.risk) := by
  obtain ⟨⟨o1, o2⟩, ⟨o3, o4⟩, ⟨o5, o6⟩, ⟨o7, o8⟩⟩ := ho
  obtain ⟨y0, y1, y2, y3, n, _, hlen, h0, h1, h2, h3⟩ := trod_struct4 he hfu
  rw [o1, o2, hci] at h0
  rw [o3, o4, hci] at h1
  rw [o5, o6, hci] at h2
  rw [o7, o8, hci] at h3
  obtain ⟨a, ha, _, wa⟩ := DataW.trod_int hi h0
  obtain ⟨b, hb, _, wb⟩ := DataW.trod_int hi h1
  obtain ⟨c, hc', _, wc⟩ := DataW.trod_int hi h2
  obtain ⟨d, hd, _, wd⟩ := DataW.trod_int hi h3
  rw [hc] at hlen
  match cs, hlen with
  | [u0, u1, u2, u3], _ =>
    simp at ha hb hc' hd
    exact ⟨⟨a, b, c, d⟩, by rw [ha, hb, hc', hd], bounds_i64 wa, bounds_i64 wb, bounds_i64 wc, bounds_i64 wd⟩
theorem fours_of_cells {t e ti : TypeId} {f0 f1 f2 f3 : Field} (ht : P.underlying t = some (.slice e)) (he : P.underlying e = some (.struct #[f0, f1, f2, f3])) (hc : P.cellsOf e = 4) (hi : P.underlying ti = some (.int .i64)) (hci : P.cellsOf ti = 1)
    (ho : (f0.type = ti ∧ f0.offset = 0) ∧ (f1.type = ti ∧ f1.offset = 1) ∧ (f2.type = ti ∧ f2.offset = 2) ∧ (f3.type = ti ∧ f3.offset = 3)) {W : World} {fuel : Nat} {cs : List Value} {x : DataW H × List MemPlace}
    (hfu : DataW.trod enc P W 0 (fun _ => true) true fuel t cs = some x) :
    ∃ (q : Option Addr) (cap : Nat) (l : List Fib), cs = [.slice q l.length cap] ∧ Fibs W q l ∧ l.length ≤ cap ∧ cap ≤ 9223372036854775807 ∧ ∀ a ∈ l, In64 a.a ∧ In64 a.b ∧ In64 a.len ∧ In64 a.risk :=
  slice_of_cells fibC _ ht hc (by omega) (fun _ => rfl) (fun _ _ _ hx => four_of_cells he hc hi hci ho hx) hfu
end

theorem cells_i : Try.prog.cellsOf 3 = 1 := by kernel_rfl
theorem cells_s : Try.prog.cellsOf 9 = 1 := by kernel_rfl
theorem cells_fib : Try.prog.cellsOf 172 = 4 := by kernel_rfl
theorem cells_sl : Try.prog.cellsOf 22 = 1 := by kernel_rfl
theorem cells_fl : Try.prog.cellsOf 23 = 1 := by kernel_rfl
theorem cells_net : Try.prog.cellsOf 25 = 2 := by kernel_rfl
section
variable {H : Type} {enc : TypeId × Value → H}
set_option maxRecDepth 100000 in
theorem net_of_cells {W : World} {fuel : Nat} {cs : List Value} {x : DataW H × List MemPlace} (h : DataW.trod enc Try.prog W 0 (fun _ => true) true fuel 25 cs = some x) :
    ∃ n, NetRaw W (.agg cs.toArray) n := by
  obtain ⟨y0, y1, k, _, hlen, h0, h1⟩ := trod_struct2 Try.underlying25 h
  rw [cells_net] at hlen
  match cs, hlen with
  | [u0, u1], _ =>
    have h0' : DataW.trod enc Try.prog W 0 (fun _ => true) true k 22 [u0] = some y0 := by
      have := h0; simp only at this; rw [cells_sl] at this; exact this
    have h1' : DataW.trod enc Try.prog W 0 (fun _ => true) true k 23 [u1] = some y1 := by
      have := h1; simp only at this; rw [cells_fl] at this; exact this
    obtain ⟨q, c, N, e0, hN, hc, hcm, hsz⟩ := strs_of_cells Try.underlying22 Try.underlying9 cells_s h0'
    obtain ⟨p, d, F, e1, hF, hd, hdm, _⟩ := fours_of_cells Try.underlying23 Try.underlying172 cells_fib Try.underlying3 cells_i ⟨⟨rfl, rfl⟩, ⟨rfl, rfl⟩, ⟨rfl, rfl⟩, ⟨rfl, rfl⟩⟩ h1'
    cases e0; cases e1
    exact ⟨⟨N, F⟩, q, c, p, d, rfl, hN, hF, by simp only; omega, by simp only; omega, hc, hcm, hsz⟩
set_option maxRecDepth 100000 in
theorem net_of_trod {W : World} {r : Reach} {b : Nat} {v : Value} {d : DataW H} {p : List MemPlace} (hok : Value.okWide Try.prog W r b 25 v)
    (h : DataW.Trod enc Try.prog W 0 (fun _ => true) true 25 v d p) : ∃ n, NetRaw W v n := by
  obtain ⟨cs, rfl, _⟩ := okWide_struct Try.underlying25 hok
  obtain ⟨fuel, hfu⟩ := h
  have := net_of_cells hfu
  simpa [Value.cells] using this
set_option maxRecDepth 100000 in
/-- A slice of four ints each that came in. -/
theorem fours_of_trod {t e ti : TypeId} {f0 f1 f2 f3 : Field} (ht : Try.prog.underlying t = some (.slice e)) (he : Try.prog.underlying e = some (.struct #[f0, f1, f2, f3])) (hc : Try.prog.cellsOf e = 4) (hi : Try.prog.underlying ti = some (.int .i64)) (hci : Try.prog.cellsOf ti = 1)
    (ho : (f0.type = ti ∧ f0.offset = 0) ∧ (f1.type = ti ∧ f1.offset = 1) ∧ (f2.type = ti ∧ f2.offset = 2) ∧ (f3.type = ti ∧ f3.offset = 3)) {W : World} {r : Reach} {b : Nat} {v : Value} {d : DataW H} {p : List MemPlace}
    (hok : Value.okWide Try.prog W r b t v) (h : DataW.Trod enc Try.prog W 0 (fun _ => true) true t v d p) :
    ∃ (q : Option Addr) (cap : Nat) (l : List Fib), v = .slice q l.length cap ∧ Fibs W q l ∧ l.length ≤ 9223372036854775807 := by
  obtain ⟨a0, len, cap, rfl⟩ := okWide_slice ht hok
  obtain ⟨fuel, hfu⟩ := h
  obtain ⟨q, cap', l, h1, h2, h3, h4, _⟩ := fours_of_cells ht he hc hi hci ho hfu
  simp [Value.cells] at h1
  obtain ⟨rfl, rfl, rfl⟩ := h1
  exact ⟨_, _, l, rfl, h2, by omega⟩
end
end Go.Proofs.Ytjlhjkdmpngkbaa
