/- Contracts: routes sorted (the library's sort at rows of two cells). -/
import Derived.Test.YteckjlkhopkogaaGreatRe2
import Derived.Test.YteckjlkhopkogaaGreatShelfS
namespace Go.Proofs.YteckjlkhopkogaaGreat
open Go.RowKit Go.PlainAid

section
variable {α : Type} [Inhabited α]
theorem flat_at (enc : α → List Value) (k : Nat) (hk : ∀ x, (enc x).length = k) (hk0 : 0 < k) (d : Array α) (j : Nat) (hj : j < d.size * k) : (d.toList.flatMap enc)[j]? = some ((Go.Sort.flatK enc k d)[j]!) := by
  rw [Go.Sort.get_flatK enc k d j hj]
  have hq : j / k < d.size := Nat.div_lt_of_lt_mul (by rw [Nat.mul_comm]; exact hj)
  have hr : j % k < k := Nat.mod_lt _ hk0
  have hd : d.toList[j / k]? = some d[j / k]! := by
    rw [List.getElem?_eq_getElem (by simpa using hq), getElem!_pos d _ hq]; simp
  have := flat_get enc k hk d.toList (j / k) (j % k) hr _ hd
  rw [show j / k * k + j % k = j by rw [Nat.mul_comm]; exact Nat.div_add_mod j k] at this
  rw [this]
  have hlen := hk d[j / k]!
  generalize enc d[j / k]! = e at hlen
  have hre : j % k < e.length := by rw [hlen]; exact hr
  rw [List.getElem?_eq_getElem hre, getElem!_pos e _ hre]
theorem sortK_other {enc : α → List Value} {k : Nat} {w : World} {b n g : Nat} {d' : Array α} {os : Array Obj} {t : TypeId} {cs : List Value} (hr : RowAt w g t cs) (hne : g ≠ b) : RowAt (sortWorldK enc k w b 0 n d' os) g t cs := by
  have hlt := hr.lt
  unfold RowAt at *
  unfold sortWorldK Go.Sort.grow Go.Sort.putRowK Go.Sort.putRow Go.Sort.mapBlock
  simp only [Go.Sort.ahead]
  rw [Array.getElem?_append_left (by simpa using hlt), Array.getElem?_modify, if_neg (Ne.symm hne)]
  exact hr
theorem sortK_fresh {enc : α → List Value} {k : Nat} {w0 w : World} {b n : Nat} {d' : Array α} {os : Array Obj} (hf : Fresh w0 w) (hb : w0.heap.size ≤ b) : Fresh w0 (sortWorldK enc k w b 0 n d' os) := by
  obtain ⟨h1, h2, h3, h4, h5⟩ := hf
  unfold sortWorldK Go.Sort.grow Go.Sort.putRowK Go.Sort.putRow Go.Sort.mapBlock
  refine ⟨h1, h2, h3, by simp [Go.Sort.ahead]; omega, fun i hi => ?_⟩
  simp only [Go.Sort.ahead]
  rw [Array.getElem?_append_left (by simp; omega), Array.getElem?_modify, if_neg (by omega)]
  exact h5 i hi
theorem sortK_row {enc : α → List Value} {k : Nat} (hk : ∀ x, (enc x).length = k) (hk0 : 0 < k) {w : World} {b n : Nat} {d d' : Array α} {os : Array Obj} {t : TypeId} {sp : List Value} (hr : RowAt w b t (d.toList.flatMap enc ++ sp)) (hs : d'.size = d.size) : RowAt (sortWorldK enc k w b 0 n d' os) b t (d'.toList.flatMap enc ++ sp) := by
  have hlt := hr.lt
  unfold RowAt at *
  unfold sortWorldK Go.Sort.grow Go.Sort.putRowK Go.Sort.putRow Go.Sort.mapBlock
  simp only [Go.Sort.ahead]
  rw [Array.getElem?_append_left (by simpa using hlt), Array.getElem?_modify, if_pos rfl, hr]
  simp only [Option.map_some, Go.Sort.onCells, Option.some.injEq, Obj.cells.injEq, and_true]
  have hl1 : (d.toList.flatMap enc).length = d.size * k := by rw [flat_len enc k hk]; simp
  have hl2 : (d'.toList.flatMap enc).length = d.size * k := by rw [flat_len enc k hk]; simp [hs]
  apply Array.ext_getElem?
  intro i
  simp only [Go.Sort.putCells, Array.getElem?_mapIdx, List.getElem?_toArray]
  rcases Nat.lt_or_ge i (d.size * k) with h | h
  · rw [List.getElem?_append_left (by omega), List.getElem?_append_left (by omega), flat_at enc k hk hk0 d i h, flat_at enc k hk hk0 d' i (by rw [hs]; exact h)]
    simp [hs, h]
  · rw [List.getElem?_append_right (by omega), List.getElem?_append_right (by omega), hl1, hl2]
    cases sp[i - d.size * k]? with
    | none => rfl
    | some v => simp only [Option.map_some]; rw [if_neg (by simp [hs]; omega)]
theorem holdsK_row {enc : α → List Value} {k : Nat} (hk : ∀ x, (enc x).length = k) (hk0 : 0 < k) {w : World} {b : Nat} {d : Array α} {t : TypeId} {sp : List Value} (hr : RowAt w b t (d.toList.flatMap enc ++ sp)) : Go.Sort.HoldsK enc k w b 0 d := by
  intro j hj
  rw [Go.Sort.size_flatK] at hj
  have hl1 : (d.toList.flatMap enc).length = d.size * k := by rw [flat_len enc k hk]; simp
  refine ⟨?_, hr.frozen _⟩
  have := hr.cell (i := 0 + j) (v := (Go.Sort.flatK enc k d)[j]!) (by rw [Nat.zero_add, List.getElem?_append_left (by omega)]; exact flat_at enc k hk hk0 d j hj)
  simpa using this
end
theorem owns_row {w : World} {base size n : Nat} {E : TypeId} {V : Value} {xs : List Value} (h : w.ownsRow base E size V n xs) (hn : 0 < n) : ∃ g cap sp, V = .slice (some ⟨g, 0, none⟩) n cap ∧ base ≤ g ∧ RowAt w g E (xs ++ sp) ∧ n ≤ cap ∧ cap ≤ maxLen ∧ (xs ++ sp).length = cap * size := by
  obtain ⟨h1, ⟨_, h2⟩ | ⟨g, cap, cur, hv, hb, hh, h3, h4, h5, h6⟩⟩ := h
  · omega
  · have e : cur.toList = xs ++ cur.toList.drop (n * size) := by rw [← h6, List.take_append_drop]
    refine ⟨g, cap, cur.toList.drop (n * size), hv, hb, ?_, h3, h4, ?_⟩
    · unfold RowAt; rw [hh, ← e]
    · rw [← e]; simpa using h5
theorem row_owns {w : World} {base size n g cap : Nat} {E : TypeId} {xs sp : List Value} (hb : base ≤ g) (hr : RowAt w g E (xs ++ sp)) (hn : n ≤ cap) (hc : cap ≤ maxLen) (hl : (xs ++ sp).length = cap * size) (hx : xs.length = n * size) : w.ownsRow base E size (.slice (some ⟨g, 0, none⟩) n cap) n xs :=
  ⟨hx, Or.inr ⟨g, cap, (xs ++ sp).toArray, rfl, hb, hr, hn, hc, by simpa using hl, by simp [← hx]⟩⟩
theorem enters_89 (args : Array Value) (w : World) : (callFunc 215 args).run Tryz.prog w = .ok (.enter 215 args) w := enters_of Tryz.func215 (by kernel_rfl) rfl args w
set_option maxHeartbeats 2000000 in
theorem cmpClo_d (bn : Nat) (qn pn : Option Addr) (m c k d : Nat) (n : Net) (x y : LR) (w : World) (hbox : RowAt w bn 35 [.slice qn m c, .slice pn k d]) (h : NetIn w (.agg #[.slice qn m c, .slice pn k d]) n) (hx : Ints w x.q x.fibs) (hy : Ints w y.q y.fibs) (vx : RtOk n x.fibs) (vy : RtOk n y.fibs) (hb : LenOk n) :
    Calls Tryz.prog 215 #[lrV x, lrV y, .pointer (some ⟨bn, 0, none⟩)] w fun e w' => e = .returned (.int .i64 (cmpR n.fibers x.val y.val)) ∧ Laid w w' := by
  obtain ⟨sx, qx, cx, fx⟩ := x
  obtain ⟨sy, qy, cy, fy⟩ := y
  obtain ⟨W2, hW2, hsz2, hf2, r1, r2⟩ := two_rows w [.int .i64 sx, .slice qx fx.length cx] [.int .i64 sy, .slice qy fy.length cy] 90 90
  have HLD : Hid (Laid w W2) := by show Laid _ _; rw [hW2]; exact ((Laid.refl w).new _).new _
  have HC := Lib.hid (compareRoutes_d (.agg #[.slice qn m c, .slice pn k d]) n ⟨sx, qx, cx, fx⟩ ⟨sy, qy, cy, fy⟩ W2 (h.keep hf2) (hx.keep hf2) (hy.keep hf2) vx vy hb)
  have y0 := fun (o1 o2 : Obj) => fkeep (fnew (fnew (frefl w) o1) o2) (hbox.cell (i := 0) rfl)
  have y1 := fun (o1 o2 : Obj) => fkeep (fnew (fnew (frefl w) o1) o2) (hbox.cell (i := 1) rfl)
  have HW2 := Lib.hid hW2
  clear hbox h hx hy vx vy hb hf2 r1 r2 hW2
  go_enter Tryz.func215, Tryz.ntmps215
  go_wp2_with fail
  rw [← HW2.out]
  refine (HC.out).mono ?_
  rintro e w1 ⟨rfl, hl⟩
  have HL := Lib.hid hl
  clear hl HC y0 y1
  go_wp2
  go_ret
  exact ⟨rfl, HLD.out.step HL.out⟩
end Go.Proofs.YteckjlkhopkogaaGreat
