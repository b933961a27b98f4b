/- One service as an argument: weighed, copied, compared; whether two services go together, as laws' sides. -/
import Derived.Test.YtipbbfeimdobeaaKSv
import Derived.Test.YtipbbfeimdobeaaSv5
namespace Go.Proofs.Ytipbbfeimdobeaa
open Go.RowKit Go.PlainAid

def S1Raw (w : World) (v : Value) (X : SvV) : Prop := ∃ x : LS, v = lsV x ∧ IntsS w x ∧ SvSm 9223372036854775807 x ∧ X = x.val
def S1In (w : World) (v : Value) (X : SvV) : Prop := ∃ x : LS, v = lsV x ∧ IntsS w x ∧ SvSm 1048576 x ∧ X = x.val
theorem S1Raw.keep {w w' : World} {v : Value} {X : SvV} (h : S1Raw w v X) (hb : Fresh w w') : S1Raw w' v X := by
  obtain ⟨x, h1, h2, r⟩ := h
  exact ⟨x, h1, h2.keep hb, r⟩
theorem S1In.keep {w w' : World} {v : Value} {X : SvV} (h : S1In w v X) (hb : Fresh w w') : S1In w' v X := by
  obtain ⟨x, h1, h2, r⟩ := h
  exact ⟨x, h1, h2.keep hb, r⟩
theorem S1Raw.small {w : World} {v : Value} {X : SvV} (h : S1Raw w v X) (hs : SvVSm X) : S1In w v X := by
  obtain ⟨x, h1, h2, h3, rfl⟩ := h
  exact ⟨x, h1, h2, hs, rfl⟩
theorem lsV_shape (x : LS) : ∃ i l s q m c f e t r k d g h, lsV x = .agg #[.int .i64 i, .int .i64 l, .int .i64 s, .slice q m c, .int .i64 f, .int .i64 e, .int .i64 t, .slice r k d, .int .i64 g, .int .i64 h] := ⟨_, _, _, _, _, _, _, _, _, _, _, _, _, _, rfl⟩
theorem S1Raw.shape {w : World} {v : Value} {X : SvV} (h : S1Raw w v X) : ∃ i l s q m c f e t r k d g h, v = .agg #[.int .i64 i, .int .i64 l, .int .i64 s, .slice q m c, .int .i64 f, .int .i64 e, .int .i64 t, .slice r k d, .int .i64 g, .int .i64 h] := by
  obtain ⟨x, rfl, _⟩ := h
  exact lsV_shape x
theorem S1In.shape {w : World} {v : Value} {X : SvV} (h : S1In w v X) : ∃ i l s q m c f e t r k d g h, v = .agg #[.int .i64 i, .int .i64 l, .int .i64 s, .slice q m c, .int .i64 f, .int .i64 e, .int .i64 t, .slice r k d, .int .i64 g, .int .i64 h] := by
  obtain ⟨x, rfl, _⟩ := h
  exact lsV_shape x
theorem szSv_k (v : Value) (X : SvV) (left : Int) (w : World) (h : S1Raw w v X) (h0 : 0 ≤ left) (h1 : left ≤ 1048576) : Calls Try.prog 18 #[v, .int .i64 left] w (SzOut w left (SvVSm X)) := by
  obtain ⟨x, rfl, h2, h3, rfl⟩ := h
  exact szService_any x left w h3 h0 h1
theorem toSv_k (v : Value) (X : SvV) (w : World) (h : S1In w v X) : Calls Try.prog 20 #[v] w fun e w' => ∃ v', e = .returned v' ∧ S1In w' v' X ∧ Fresh w w' := by
  obtain ⟨x, rfl, h2, h3, rfl⟩ := h
  refine (toService_any x w h2 h3).mono ?_
  rintro e w' ⟨y, he, hv, ho, hf⟩
  refine ⟨_, he, ⟨y, rfl, ⟨ho.1.ints, ho.2.ints⟩, ?_, hv.symm⟩, hf⟩
  have h1 : y.w.fibs.length = x.w.fibs.length := congrArg (fun z : SvV => z.w.2.length) hv
  have h2 : y.s.fibs.length = x.s.fibs.length := congrArg (fun z : SvV => z.s.2.length) hv
  unfold SvSm at *
  omega
theorem eqSv_k (v v' : Value) (X : SvV) (w : World) (h : S1In w v X) (h' : S1In w v' X) : Calls Try.prog 22 #[v, v'] w fun e w' => e = .returned (.bool true) ∧ Fresh w w' := by
  obtain ⟨x, rfl, h2, h3, rfl⟩ := h
  obtain ⟨y, rfl, h2', h3', he⟩ := h'
  exact eqService_same x y w he h2 h2' h3
section
open Go.ChangeShapes Go.WideShapes Go.ChangeAt Go.Joins
variable {H : Type} {enc : TypeId × Value → H}
set_option maxRecDepth 100000 in
theorem sv_of_trod {W : World} {r : Reach} {b : Nat} {v : Value} {d : DataW H} {p : List MemPlace} (hok : Value.okWide Try.prog W r b 51 v)
    (h : DataW.Trod enc Try.prog W 0 (fun _ => true) true 51 v d p) : ∃ X, S1Raw W v X := by
  obtain ⟨cs, rfl, _⟩ := okWide_struct Try.underlying51 hok
  obtain ⟨fuel, hfu⟩ := h
  obtain ⟨a, e, hI, hn⟩ := sv_of_cells (x := (d, p)) (by simpa [Value.cells] using hfu)
  refine ⟨_, a, ?_, hI, hn, rfl⟩
  rw [← Array.toArray_toList (xs := cs), e]
end
theorem keepc22 {w w1 w2 : World} {b0 o0 b1 o1 b2 o2 b3 o3 b4 o4 b5 o5 b6 o6 b7 o7 b8 o8 b9 o9 b10 o10 b11 o11 b12 o12 b13 o13 b14 o14 b15 o15 b16 o16 b17 o17 b18 o18 b19 o19 b20 o20 b21 o21 : Nat} {v0 v1 v2 v3 v4 v5 v6 v7 v8 v9 v10 v11 v12 v13 v14 v15 v16 v17 v18 v19 v20 v21 : Value} (h : Fresh w w1 ∧ w1.cell? ⟨b0, o0, none⟩ = some v0 ∧ w1.cell? ⟨b1, o1, none⟩ = some v1 ∧ w1.cell? ⟨b2, o2, none⟩ = some v2 ∧ w1.cell? ⟨b3, o3, none⟩ = some v3 ∧ w1.cell? ⟨b4, o4, none⟩ = some v4 ∧ w1.cell? ⟨b5, o5, none⟩ = some v5 ∧ w1.cell? ⟨b6, o6, none⟩ = some v6 ∧ w1.cell? ⟨b7, o7, none⟩ = some v7 ∧ w1.cell? ⟨b8, o8, none⟩ = some v8 ∧ w1.cell? ⟨b9, o9, none⟩ = some v9 ∧ w1.cell? ⟨b10, o10, none⟩ = some v10 ∧ w1.cell? ⟨b11, o11, none⟩ = some v11 ∧ w1.cell? ⟨b12, o12, none⟩ = some v12 ∧ w1.cell? ⟨b13, o13, none⟩ = some v13 ∧ w1.cell? ⟨b14, o14, none⟩ = some v14 ∧ w1.cell? ⟨b15, o15, none⟩ = some v15 ∧ w1.cell? ⟨b16, o16, none⟩ = some v16 ∧ w1.cell? ⟨b17, o17, none⟩ = some v17 ∧ w1.cell? ⟨b18, o18, none⟩ = some v18 ∧ w1.cell? ⟨b19, o19, none⟩ = some v19 ∧ w1.cell? ⟨b20, o20, none⟩ = some v20 ∧ w1.cell? ⟨b21, o21, none⟩ = some v21) (hb : Fresh w1 w2) : Fresh w w2 ∧ w2.cell? ⟨b0, o0, none⟩ = some v0 ∧ w2.cell? ⟨b1, o1, none⟩ = some v1 ∧ w2.cell? ⟨b2, o2, none⟩ = some v2 ∧ w2.cell? ⟨b3, o3, none⟩ = some v3 ∧ w2.cell? ⟨b4, o4, none⟩ = some v4 ∧ w2.cell? ⟨b5, o5, none⟩ = some v5 ∧ w2.cell? ⟨b6, o6, none⟩ = some v6 ∧ w2.cell? ⟨b7, o7, none⟩ = some v7 ∧ w2.cell? ⟨b8, o8, none⟩ = some v8 ∧ w2.cell? ⟨b9, o9, none⟩ = some v9 ∧ w2.cell? ⟨b10, o10, none⟩ = some v10 ∧ w2.cell? ⟨b11, o11, none⟩ = some v11 ∧ w2.cell? ⟨b12, o12, none⟩ = some v12 ∧ w2.cell? ⟨b13, o13, none⟩ = some v13 ∧ w2.cell? ⟨b14, o14, none⟩ = some v14 ∧ w2.cell? ⟨b15, o15, none⟩ = some v15 ∧ w2.cell? ⟨b16, o16, none⟩ = some v16 ∧ w2.cell? ⟨b17, o17, none⟩ = some v17 ∧ w2.cell? ⟨b18, o18, none⟩ = some v18 ∧ w2.cell? ⟨b19, o19, none⟩ = some v19 ∧ w2.cell? ⟨b20, o20, none⟩ = some v20 ∧ w2.cell? ⟨b21, o21, none⟩ = some v21 :=
  ⟨fstep h.1 hb, fkeep hb h.2.1, fkeep hb h.2.2.1, fkeep hb h.2.2.2.1, fkeep hb h.2.2.2.2.1, fkeep hb h.2.2.2.2.2.1, fkeep hb h.2.2.2.2.2.2.1, fkeep hb h.2.2.2.2.2.2.2.1, fkeep hb h.2.2.2.2.2.2.2.2.1, fkeep hb h.2.2.2.2.2.2.2.2.2.1, fkeep hb h.2.2.2.2.2.2.2.2.2.2.1, fkeep hb h.2.2.2.2.2.2.2.2.2.2.2.1, fkeep hb h.2.2.2.2.2.2.2.2.2.2.2.2.1, fkeep hb h.2.2.2.2.2.2.2.2.2.2.2.2.2.1, fkeep hb h.2.2.2.2.2.2.2.2.2.2.2.2.2.2.1, fkeep hb h.2.2.2.2.2.2.2.2.2.2.2.2.2.2.2.1, fkeep hb h.2.2.2.2.2.2.2.2.2.2.2.2.2.2.2.2.1, fkeep hb h.2.2.2.2.2.2.2.2.2.2.2.2.2.2.2.2.2.1, fkeep hb h.2.2.2.2.2.2.2.2.2.2.2.2.2.2.2.2.2.2.1, fkeep hb h.2.2.2.2.2.2.2.2.2.2.2.2.2.2.2.2.2.2.2.1, fkeep hb h.2.2.2.2.2.2.2.2.2.2.2.2.2.2.2.2.2.2.2.2.1, fkeep hb h.2.2.2.2.2.2.2.2.2.2.2.2.2.2.2.2.2.2.2.2.2.1, fkeep hb h.2.2.2.2.2.2.2.2.2.2.2.2.2.2.2.2.2.2.2.2.2.2⟩
theorem keepc20 {w w1 w2 : World} {b0 o0 b1 o1 b2 o2 b3 o3 b4 o4 b5 o5 b6 o6 b7 o7 b8 o8 b9 o9 b10 o10 b11 o11 b12 o12 b13 o13 b14 o14 b15 o15 b16 o16 b17 o17 b18 o18 b19 o19 : Nat} {v0 v1 v2 v3 v4 v5 v6 v7 v8 v9 v10 v11 v12 v13 v14 v15 v16 v17 v18 v19 : Value} (h : Fresh w w1 ∧ w1.cell? ⟨b0, o0, none⟩ = some v0 ∧ w1.cell? ⟨b1, o1, none⟩ = some v1 ∧ w1.cell? ⟨b2, o2, none⟩ = some v2 ∧ w1.cell? ⟨b3, o3, none⟩ = some v3 ∧ w1.cell? ⟨b4, o4, none⟩ = some v4 ∧ w1.cell? ⟨b5, o5, none⟩ = some v5 ∧ w1.cell? ⟨b6, o6, none⟩ = some v6 ∧ w1.cell? ⟨b7, o7, none⟩ = some v7 ∧ w1.cell? ⟨b8, o8, none⟩ = some v8 ∧ w1.cell? ⟨b9, o9, none⟩ = some v9 ∧ w1.cell? ⟨b10, o10, none⟩ = some v10 ∧ w1.cell? ⟨b11, o11, none⟩ = some v11 ∧ w1.cell? ⟨b12, o12, none⟩ = some v12 ∧ w1.cell? ⟨b13, o13, none⟩ = some v13 ∧ w1.cell? ⟨b14, o14, none⟩ = some v14 ∧ w1.cell? ⟨b15, o15, none⟩ = some v15 ∧ w1.cell? ⟨b16, o16, none⟩ = some v16 ∧ w1.cell? ⟨b17, o17, none⟩ = some v17 ∧ w1.cell? ⟨b18, o18, none⟩ = some v18 ∧ w1.cell? ⟨b19, o19, none⟩ = some v19) (hb : Fresh w1 w2) : Fresh w w2 ∧ w2.cell? ⟨b0, o0, none⟩ = some v0 ∧ w2.cell? ⟨b1, o1, none⟩ = some v1 ∧ w2.cell? ⟨b2, o2, none⟩ = some v2 ∧ w2.cell? ⟨b3, o3, none⟩ = some v3 ∧ w2.cell? ⟨b4, o4, none⟩ = some v4 ∧ w2.cell? ⟨b5, o5, none⟩ = some v5 ∧ w2.cell? ⟨b6, o6, none⟩ = some v6 ∧ w2.cell? ⟨b7, o7, none⟩ = some v7 ∧ w2.cell? ⟨b8, o8, none⟩ = some v8 ∧ w2.cell? ⟨b9, o9, none⟩ = some v9 ∧ w2.cell? ⟨b10, o10, none⟩ = some v10 ∧ w2.cell? ⟨b11, o11, none⟩ = some v11 ∧ w2.cell? ⟨b12, o12, none⟩ = some v12 ∧ w2.cell? ⟨b13, o13, none⟩ = some v13 ∧ w2.cell? ⟨b14, o14, none⟩ = some v14 ∧ w2.cell? ⟨b15, o15, none⟩ = some v15 ∧ w2.cell? ⟨b16, o16, none⟩ = some v16 ∧ w2.cell? ⟨b17, o17, none⟩ = some v17 ∧ w2.cell? ⟨b18, o18, none⟩ = some v18 ∧ w2.cell? ⟨b19, o19, none⟩ = some v19 :=
  ⟨fstep h.1 hb, fkeep hb h.2.1, fkeep hb h.2.2.1, fkeep hb h.2.2.2.1, fkeep hb h.2.2.2.2.1, fkeep hb h.2.2.2.2.2.1, fkeep hb h.2.2.2.2.2.2.1, fkeep hb h.2.2.2.2.2.2.2.1, fkeep hb h.2.2.2.2.2.2.2.2.1, fkeep hb h.2.2.2.2.2.2.2.2.2.1, fkeep hb h.2.2.2.2.2.2.2.2.2.2.1, fkeep hb h.2.2.2.2.2.2.2.2.2.2.2.1, fkeep hb h.2.2.2.2.2.2.2.2.2.2.2.2.1, fkeep hb h.2.2.2.2.2.2.2.2.2.2.2.2.2.1, fkeep hb h.2.2.2.2.2.2.2.2.2.2.2.2.2.2.1, fkeep hb h.2.2.2.2.2.2.2.2.2.2.2.2.2.2.2.1, fkeep hb h.2.2.2.2.2.2.2.2.2.2.2.2.2.2.2.2.1, fkeep hb h.2.2.2.2.2.2.2.2.2.2.2.2.2.2.2.2.2.1, fkeep hb h.2.2.2.2.2.2.2.2.2.2.2.2.2.2.2.2.2.2.1, fkeep hb h.2.2.2.2.2.2.2.2.2.2.2.2.2.2.2.2.2.2.2.1, fkeep hb h.2.2.2.2.2.2.2.2.2.2.2.2.2.2.2.2.2.2.2.2⟩

def compF (n : Net) (a b : SvV) : Bool × Bool := if netB n = true ∧ svB n a = true ∧ svB n b = true then (compB n a b, true) else (false, false)
set_option maxHeartbeats 8000000 in
set_option maxRecDepth 100000 in
theorem implAreCompatible_any (v : Value) (n : Net) (v2 : Value) (X : SvV) (v3 : Value) (Y : SvV) (w : World) (h : NetIn w v n) (h2 : S1In w v2 X) (h3 : S1In w v3 Y) :
    Calls Try.prog 21 #[v, v2, v3] w fun e w' => e = .returned (.tuple #[.bool (compF n X Y).1, .bool (compF n X Y).2]) ∧ Fresh w w' := by
  obtain ⟨⟨id, cl, ⟨s, q, cap, l⟩, wf, wc, ⟨t, r, dap, m⟩, sf, sc⟩, rfl, hI, hn, rfl⟩ := h2
  obtain ⟨⟨id', cl', ⟨s', q', cap', l'⟩, wf', wc', ⟨t', r', dap', m'⟩, sf', sc'⟩, rfl, hJ, hm, rfl⟩ := h3
  have HN := Lib.hid h
  obtain ⟨q1, mm, c, p, k, d, rfl⟩ := h.shape
  clear h
  obtain ⟨W3, hW3, hsz3, hf3, r1, r2, r3⟩ := three_rows w [.slice q1 mm c, .slice p k d] [.int .i64 id, .int .i64 cl, .int .i64 s, .slice q l.length cap, .int .i64 wf, .int .i64 wc, .int .i64 t, .slice r m.length dap, .int .i64 sf, .int .i64 sc] [.int .i64 id', .int .i64 cl', .int .i64 s', .slice q' l'.length cap', .int .i64 wf', .int .i64 wc', .int .i64 t', .slice r' m'.length dap', .int .i64 sf', .int .i64 sc'] 34 58 58
  have HI := Lib.hid (hI.keep hf3)
  have HJ := Lib.hid (hJ.keep hf3)
  have HF3 := Lib.hid hf3
  have HW3 := Lib.hid hW3
  have HN3 := Lib.hid (HN.out.keep hf3)
  obtain ⟨VX, hVX⟩ : ∃ V : SvV, V = ⟨id, cl, (s, l), (wf, wc), (t, m), (sf, sc)⟩ := ⟨_, rfl⟩
  obtain ⟨VY, hVY⟩ : ∃ V : SvV, V = ⟨id', cl', (s', l'), (wf', wc'), (t', m'), (sf', sc')⟩ := ⟨_, rfl⟩
  have HC1 : Hid (∀ W, Fresh W3 W → Calls Try.prog 44 #[.agg #[.slice q1 mm c, .slice p k d]] W fun e w' => e = .returned (.bool (netB n)) ∧ Fresh W w') := fun W hW => implIsValidNetwork_any _ n W (HN3.out.keep hW)
  have HC2 : Hid (netB n = true → ∀ W, Fresh W3 W → Calls Try.prog 45 #[.agg #[.slice q1 mm c, .slice p k d], .agg #[.int .i64 id, .int .i64 cl, .int .i64 s, .slice q l.length cap, .int .i64 wf, .int .i64 wc, .int .i64 t, .slice r m.length dap, .int .i64 sf, .int .i64 sc]] W fun e w' => e = .returned (.bool (svB n VX)) ∧ Fresh W w') := by rw [hVX]; exact fun hb W hW => isService_any _ n ⟨id, cl, ⟨s, q, cap, l⟩, wf, wc, ⟨t, r, dap, m⟩, sf, sc⟩ W (HN3.out.keep hW) hb (HI.out.keep hW) hn
  have HC3 : Hid (netB n = true → ∀ W, Fresh W3 W → Calls Try.prog 45 #[.agg #[.slice q1 mm c, .slice p k d], .agg #[.int .i64 id', .int .i64 cl', .int .i64 s', .slice q' l'.length cap', .int .i64 wf', .int .i64 wc', .int .i64 t', .slice r' m'.length dap', .int .i64 sf', .int .i64 sc']] W fun e w' => e = .returned (.bool (svB n VY)) ∧ Fresh W w') := by rw [hVY]; exact fun hb W hW => isService_any _ n ⟨id', cl', ⟨s', q', cap', l'⟩, wf', wc', ⟨t', r', dap', m'⟩, sf', sc'⟩ W (HN3.out.keep hW) hb (HJ.out.keep hW) hm
  have HC4 : Hid (netB n = true → svB n VX = true → svB n VY = true → ∀ W, Fresh W3 W → Calls Try.prog 46 #[.agg #[.slice q1 mm c, .slice p k d], .agg #[.int .i64 id, .int .i64 cl, .int .i64 s, .slice q l.length cap, .int .i64 wf, .int .i64 wc, .int .i64 t, .slice r m.length dap, .int .i64 sf, .int .i64 sc], .agg #[.int .i64 id', .int .i64 cl', .int .i64 s', .slice q' l'.length cap', .int .i64 wf', .int .i64 wc', .int .i64 t', .slice r' m'.length dap', .int .i64 sf', .int .i64 sc']] W fun e w' => e = .returned (.bool (compB n VX VY)) ∧ Fresh W w') := by
    rw [hVX, hVY]
    exact fun hb gx gy W hW => compatible_any _ n ⟨id, cl, ⟨s, q, cap, l⟩, wf, wc, ⟨t, r, dap, m⟩, sf, sc⟩ ⟨id', cl', ⟨s', q', cap', l'⟩, wf', wc', ⟨t', r', dap', m'⟩, sf', sc'⟩ W (HN3.out.keep hW) hb gx gy (HI.out.keep hW) (HJ.out.keep hW) hn hm
  show Calls _ _ _ _ fun e w' => e = .returned (.tuple #[.bool (compF n ⟨id, cl, (s, l), (wf, wc), (t, m), (sf, sc)⟩ ⟨id', cl', (s', l'), (wf', wc'), (t', m'), (sf', sc')⟩).1, .bool (compF n ⟨id, cl, (s, l), (wf, wc), (t, m), (sf, sc)⟩ ⟨id', cl', (s', l'), (wf', wc'), (t', m'), (sf', sc')⟩).2]) ∧ Fresh w w'
  rw [← hVX, ← hVY]
  obtain ⟨CF, hCF⟩ : ∃ C, C = compF n VX VY := ⟨_, rfl⟩
  rw [← hCF]
  unfold compF at hCF
  have HCF := Lib.hid hCF
  have za0 := r1.cell (i := 0) rfl
  have za1 := r1.cell (i := 1) rfl
  have zb0 := r2.cell (i := 0) rfl
  have zb1 := r2.cell (i := 1) rfl
  have zb2 := r2.cell (i := 2) rfl
  have zb3 := r2.cell (i := 3) rfl
  have zb4 := r2.cell (i := 4) rfl
  have zb5 := r2.cell (i := 5) rfl
  have zb6 := r2.cell (i := 6) rfl
  have zb7 := r2.cell (i := 7) rfl
  have zb8 := r2.cell (i := 8) rfl
  have zb9 := r2.cell (i := 9) rfl
  have zc0 := r3.cell (i := 0) rfl
  have zc1 := r3.cell (i := 1) rfl
  have zc2 := r3.cell (i := 2) rfl
  have zc3 := r3.cell (i := 3) rfl
  have zc4 := r3.cell (i := 4) rfl
  have zc5 := r3.cell (i := 5) rfl
  have zc6 := r3.cell (i := 6) rfl
  have zc7 := r3.cell (i := 7) rfl
  have zc8 := r3.cell (i := 8) rfl
  have zc9 := r3.cell (i := 9) rfl
  clear hI hJ hf3 hW3 hsz3 hCF r1 r2 r3 hVX hVY
  go_enter Try.func21, Try.ntmps21
  go_wp2_with fail
  rw [← HW3.out]
  refine (HC1.out W3 (frefl _)).mono ?_
  rintro e w1 ⟨rfl, hb⟩
  have HB := Lib.hid hb
  replace za0 := fkeep hb za0
  replace za1 := fkeep hb za1
  replace zb0 := fkeep hb zb0
  replace zb1 := fkeep hb zb1
  replace zb2 := fkeep hb zb2
  replace zb3 := fkeep hb zb3
  replace zb4 := fkeep hb zb4
  replace zb5 := fkeep hb zb5
  replace zb6 := fkeep hb zb6
  replace zb7 := fkeep hb zb7
  replace zb8 := fkeep hb zb8
  replace zb9 := fkeep hb zb9
  replace zc0 := fkeep hb zc0
  replace zc1 := fkeep hb zc1
  replace zc2 := fkeep hb zc2
  replace zc3 := fkeep hb zc3
  replace zc4 := fkeep hb zc4
  replace zc5 := fkeep hb zc5
  replace zc6 := fkeep hb zc6
  replace zc7 := fkeep hb zc7
  replace zc8 := fkeep hb zc8
  replace zc9 := fkeep hb zc9
  clear hb
  cases hnet : netB n
  · have HE : Hid (CF = (false, false)) := by show _ = _; rw [HCF.out, if_neg (by rw [hnet]; simp)]
    go_wp2
    go_ret2
    rw [HE.out]
    exact ⟨rfl, fstep HF3.out HB.out⟩
  replace HC2 := Lib.hid (HC2.out hnet w1 HB.out)
  replace HC3 := Lib.hid (HC3.out hnet)
  replace HC4 := Lib.hid (HC4.out hnet)
  go_wp2_with fail
  refine (HC2.out).mono ?_
  rintro e w2 ⟨rfl, hb⟩
  replace HB := Lib.hid (fstep HB.out hb)
  replace za0 := fkeep hb za0
  replace za1 := fkeep hb za1
  replace zb0 := fkeep hb zb0
  replace zb1 := fkeep hb zb1
  replace zb2 := fkeep hb zb2
  replace zb3 := fkeep hb zb3
  replace zb4 := fkeep hb zb4
  replace zb5 := fkeep hb zb5
  replace zb6 := fkeep hb zb6
  replace zb7 := fkeep hb zb7
  replace zb8 := fkeep hb zb8
  replace zb9 := fkeep hb zb9
  replace zc0 := fkeep hb zc0
  replace zc1 := fkeep hb zc1
  replace zc2 := fkeep hb zc2
  replace zc3 := fkeep hb zc3
  replace zc4 := fkeep hb zc4
  replace zc5 := fkeep hb zc5
  replace zc6 := fkeep hb zc6
  replace zc7 := fkeep hb zc7
  replace zc8 := fkeep hb zc8
  replace zc9 := fkeep hb zc9
  clear hb HC2
  cases hx : svB n VX
  · have HE : Hid (CF = (false, false)) := by show _ = _; rw [HCF.out, if_neg (by rw [hx]; simp)]
    go_wp2
    go_ret2
    rw [HE.out]
    exact ⟨rfl, fstep HF3.out HB.out⟩
  replace HC3 := Lib.hid (HC3.out w2 HB.out)
  replace HC4 := Lib.hid (HC4.out hx)
  go_wp2_with fail
  refine (HC3.out).mono ?_
  rintro e w3 ⟨rfl, hb⟩
  replace HB := Lib.hid (fstep HB.out hb)
  replace za0 := fkeep hb za0
  replace za1 := fkeep hb za1
  replace zb0 := fkeep hb zb0
  replace zb1 := fkeep hb zb1
  replace zb2 := fkeep hb zb2
  replace zb3 := fkeep hb zb3
  replace zb4 := fkeep hb zb4
  replace zb5 := fkeep hb zb5
  replace zb6 := fkeep hb zb6
  replace zb7 := fkeep hb zb7
  replace zb8 := fkeep hb zb8
  replace zb9 := fkeep hb zb9
  replace zc0 := fkeep hb zc0
  replace zc1 := fkeep hb zc1
  replace zc2 := fkeep hb zc2
  replace zc3 := fkeep hb zc3
  replace zc4 := fkeep hb zc4
  replace zc5 := fkeep hb zc5
  replace zc6 := fkeep hb zc6
  replace zc7 := fkeep hb zc7
  replace zc8 := fkeep hb zc8
  replace zc9 := fkeep hb zc9
  clear hb HC3
  cases hy : svB n VY
  · have HE : Hid (CF = (false, false)) := by show _ = _; rw [HCF.out, if_neg (by rw [hy]; simp)]
    go_wp2
    go_ret2
    rw [HE.out]
    exact ⟨rfl, fstep HF3.out HB.out⟩
  have HE : Hid (CF = (compB n VX VY, true)) := by show _ = _; rw [HCF.out, if_pos ⟨hnet, hx, hy⟩]
  replace HC4 := Lib.hid (HC4.out hy w3 HB.out)
  obtain ⟨CB, hCB⟩ : ∃ C, C = compB n VX VY := ⟨_, rfl⟩
  rw [← hCB] at HC4 HE
  clear hCB hnet hx hy HCF
  go_wp2_with fail
  refine (HC4.out).mono ?_
  rintro e w5 ⟨rfl, hb⟩
  replace HB := Lib.hid (fstep HB.out hb)
  clear hb za0 za1 zb0 zb1 zb2 zb3 zb4 zb5 zb6 zb7 zb8 zb9 zc0 zc1 zc2 zc3 zc4 zc5 zc6 zc7 zc8 zc9
  go_wp2
  go_ret2
  rw [HE.out]
  exact ⟨rfl, fstep HF3.out HB.out⟩
set_option maxHeartbeats 8000000 in
set_option maxRecDepth 100000 in
theorem specAreCompatible_any (v : Value) (n : Net) (v2 : Value) (X : SvV) (v3 : Value) (Y : SvV) (w : World) (h : NetIn w v n) (h2 : S1In w v2 X) (h3 : S1In w v3 Y) :
    Calls Try.prog 19 #[v, v2, v3] w fun e w' => e = .returned (.tuple #[.bool (compF n X Y).1, .bool (compF n X Y).2]) ∧ Fresh w w' := by
  obtain ⟨⟨id, cl, ⟨s, q, cap, l⟩, wf, wc, ⟨t, r, dap, m⟩, sf, sc⟩, rfl, hI, hn, rfl⟩ := h2
  obtain ⟨⟨id', cl', ⟨s', q', cap', l'⟩, wf', wc', ⟨t', r', dap', m'⟩, sf', sc'⟩, rfl, hJ, hm, rfl⟩ := h3
  have HN := Lib.hid h
  obtain ⟨q1, mm, c, p, k, d, rfl⟩ := h.shape
  clear h
  obtain ⟨W3, hW3, hsz3, hf3, r1, r2, r3⟩ := three_rows w [.slice q1 mm c, .slice p k d] [.int .i64 id, .int .i64 cl, .int .i64 s, .slice q l.length cap, .int .i64 wf, .int .i64 wc, .int .i64 t, .slice r m.length dap, .int .i64 sf, .int .i64 sc] [.int .i64 id', .int .i64 cl', .int .i64 s', .slice q' l'.length cap', .int .i64 wf', .int .i64 wc', .int .i64 t', .slice r' m'.length dap', .int .i64 sf', .int .i64 sc'] 34 58 58
  have HI := Lib.hid (hI.keep hf3)
  have HJ := Lib.hid (hJ.keep hf3)
  have HF3 := Lib.hid hf3
  have HW3 := Lib.hid hW3
  have HN3 := Lib.hid (HN.out.keep hf3)
  obtain ⟨VX, hVX⟩ : ∃ V : SvV, V = ⟨id, cl, (s, l), (wf, wc), (t, m), (sf, sc)⟩ := ⟨_, rfl⟩
  obtain ⟨VY, hVY⟩ : ∃ V : SvV, V = ⟨id', cl', (s', l'), (wf', wc'), (t', m'), (sf', sc')⟩ := ⟨_, rfl⟩
  have HC1 : Hid (∀ W, Fresh W3 W → Calls Try.prog 39 #[.agg #[.slice q1 mm c, .slice p k d]] W fun e w' => e = .returned (.bool (netB n)) ∧ Fresh W w') := fun W hW => l2Good_any _ n W (HN3.out.keep hW)
  have HC2 : Hid (netB n = true → ∀ W, Fresh W3 W → Calls Try.prog 40 #[.agg #[.slice q1 mm c, .slice p k d], .agg #[.int .i64 id, .int .i64 cl, .int .i64 s, .slice q l.length cap, .int .i64 wf, .int .i64 wc, .int .i64 t, .slice r m.length dap, .int .i64 sf, .int .i64 sc]] W fun e w' => e = .returned (.bool (svB n VX)) ∧ Fresh W w') := by rw [hVX]; exact fun hb W hW => l13Service_any _ n ⟨id, cl, ⟨s, q, cap, l⟩, wf, wc, ⟨t, r, dap, m⟩, sf, sc⟩ W (HN3.out.keep hW) hb (HI.out.keep hW) hn
  have HC3 : Hid (netB n = true → ∀ W, Fresh W3 W → Calls Try.prog 40 #[.agg #[.slice q1 mm c, .slice p k d], .agg #[.int .i64 id', .int .i64 cl', .int .i64 s', .slice q' l'.length cap', .int .i64 wf', .int .i64 wc', .int .i64 t', .slice r' m'.length dap', .int .i64 sf', .int .i64 sc']] W fun e w' => e = .returned (.bool (svB n VY)) ∧ Fresh W w') := by rw [hVY]; exact fun hb W hW => l13Service_any _ n ⟨id', cl', ⟨s', q', cap', l'⟩, wf', wc', ⟨t', r', dap', m'⟩, sf', sc'⟩ W (HN3.out.keep hW) hb (HJ.out.keep hW) hm
  have HC4 : Hid (netB n = true → svB n VX = true → svB n VY = true → ∀ W, Fresh W3 W → Calls Try.prog 41 #[.agg #[.slice q1 mm c, .slice p k d], .agg #[.int .i64 id, .int .i64 cl, .int .i64 s, .slice q l.length cap, .int .i64 wf, .int .i64 wc, .int .i64 t, .slice r m.length dap, .int .i64 sf, .int .i64 sc], .agg #[.int .i64 id', .int .i64 cl', .int .i64 s', .slice q' l'.length cap', .int .i64 wf', .int .i64 wc', .int .i64 t', .slice r' m'.length dap', .int .i64 sf', .int .i64 sc']] W fun e w' => e = .returned (.bool (compB n VX VY)) ∧ Fresh W w') := by
    rw [hVX, hVY]
    exact fun hb gx gy W hW => l13Compatible_any _ n ⟨id, cl, ⟨s, q, cap, l⟩, wf, wc, ⟨t, r, dap, m⟩, sf, sc⟩ ⟨id', cl', ⟨s', q', cap', l'⟩, wf', wc', ⟨t', r', dap', m'⟩, sf', sc'⟩ W (HN3.out.keep hW) hb gx gy (HI.out.keep hW) (HJ.out.keep hW) hn hm
  show Calls _ _ _ _ fun e w' => e = .returned (.tuple #[.bool (compF n ⟨id, cl, (s, l), (wf, wc), (t, m), (sf, sc)⟩ ⟨id', cl', (s', l'), (wf', wc'), (t', m'), (sf', sc')⟩).1, .bool (compF n ⟨id, cl, (s, l), (wf, wc), (t, m), (sf, sc)⟩ ⟨id', cl', (s', l'), (wf', wc'), (t', m'), (sf', sc')⟩).2]) ∧ Fresh w w'
  rw [← hVX, ← hVY]
  obtain ⟨CF, hCF⟩ : ∃ C, C = compF n VX VY := ⟨_, rfl⟩
  rw [← hCF]
  unfold compF at hCF
  have HCF := Lib.hid hCF
  have za0 := r1.cell (i := 0) rfl
  have za1 := r1.cell (i := 1) rfl
  have zb0 := r2.cell (i := 0) rfl
  have zb1 := r2.cell (i := 1) rfl
  have zb2 := r2.cell (i := 2) rfl
  have zb3 := r2.cell (i := 3) rfl
  have zb4 := r2.cell (i := 4) rfl
  have zb5 := r2.cell (i := 5) rfl
  have zb6 := r2.cell (i := 6) rfl
  have zb7 := r2.cell (i := 7) rfl
  have zb8 := r2.cell (i := 8) rfl
  have zb9 := r2.cell (i := 9) rfl
  have zc0 := r3.cell (i := 0) rfl
  have zc1 := r3.cell (i := 1) rfl
  have zc2 := r3.cell (i := 2) rfl
  have zc3 := r3.cell (i := 3) rfl
  have zc4 := r3.cell (i := 4) rfl
  have zc5 := r3.cell (i := 5) rfl
  have zc6 := r3.cell (i := 6) rfl
  have zc7 := r3.cell (i := 7) rfl
  have zc8 := r3.cell (i := 8) rfl
  have zc9 := r3.cell (i := 9) rfl
  clear hI hJ hf3 hW3 hsz3 hCF r1 r2 r3 hVX hVY
  go_enter Try.func19, Try.ntmps19
  go_wp2_with fail
  rw [← HW3.out]
  refine (HC1.out W3 (frefl _)).mono ?_
  rintro e w1 ⟨rfl, hb⟩
  have HB := Lib.hid hb
  replace za0 := fkeep hb za0
  replace za1 := fkeep hb za1
  replace zb0 := fkeep hb zb0
  replace zb1 := fkeep hb zb1
  replace zb2 := fkeep hb zb2
  replace zb3 := fkeep hb zb3
  replace zb4 := fkeep hb zb4
  replace zb5 := fkeep hb zb5
  replace zb6 := fkeep hb zb6
  replace zb7 := fkeep hb zb7
  replace zb8 := fkeep hb zb8
  replace zb9 := fkeep hb zb9
  replace zc0 := fkeep hb zc0
  replace zc1 := fkeep hb zc1
  replace zc2 := fkeep hb zc2
  replace zc3 := fkeep hb zc3
  replace zc4 := fkeep hb zc4
  replace zc5 := fkeep hb zc5
  replace zc6 := fkeep hb zc6
  replace zc7 := fkeep hb zc7
  replace zc8 := fkeep hb zc8
  replace zc9 := fkeep hb zc9
  clear hb
  cases hnet : netB n
  · have HE : Hid (CF = (false, false)) := by show _ = _; rw [HCF.out, if_neg (by rw [hnet]; simp)]
    go_wp2
    go_ret2
    rw [HE.out]
    exact ⟨rfl, fstep HF3.out HB.out⟩
  replace HC2 := Lib.hid (HC2.out hnet w1 HB.out)
  replace HC3 := Lib.hid (HC3.out hnet)
  replace HC4 := Lib.hid (HC4.out hnet)
  go_wp2_with fail
  refine (HC2.out).mono ?_
  rintro e w2 ⟨rfl, hb⟩
  replace HB := Lib.hid (fstep HB.out hb)
  replace za0 := fkeep hb za0
  replace za1 := fkeep hb za1
  replace zb0 := fkeep hb zb0
  replace zb1 := fkeep hb zb1
  replace zb2 := fkeep hb zb2
  replace zb3 := fkeep hb zb3
  replace zb4 := fkeep hb zb4
  replace zb5 := fkeep hb zb5
  replace zb6 := fkeep hb zb6
  replace zb7 := fkeep hb zb7
  replace zb8 := fkeep hb zb8
  replace zb9 := fkeep hb zb9
  replace zc0 := fkeep hb zc0
  replace zc1 := fkeep hb zc1
  replace zc2 := fkeep hb zc2
  replace zc3 := fkeep hb zc3
  replace zc4 := fkeep hb zc4
  replace zc5 := fkeep hb zc5
  replace zc6 := fkeep hb zc6
  replace zc7 := fkeep hb zc7
  replace zc8 := fkeep hb zc8
  replace zc9 := fkeep hb zc9
  clear hb HC2
  cases hx : svB n VX
  · have HE : Hid (CF = (false, false)) := by show _ = _; rw [HCF.out, if_neg (by rw [hx]; simp)]
    go_wp2
    go_ret2
    rw [HE.out]
    exact ⟨rfl, fstep HF3.out HB.out⟩
  replace HC3 := Lib.hid (HC3.out w2 HB.out)
  replace HC4 := Lib.hid (HC4.out hx)
  go_wp2_with fail
  refine (HC3.out).mono ?_
  rintro e w3 ⟨rfl, hb⟩
  replace HB := Lib.hid (fstep HB.out hb)
  replace za0 := fkeep hb za0
  replace za1 := fkeep hb za1
  replace zb0 := fkeep hb zb0
  replace zb1 := fkeep hb zb1
  replace zb2 := fkeep hb zb2
  replace zb3 := fkeep hb zb3
  replace zb4 := fkeep hb zb4
  replace zb5 := fkeep hb zb5
  replace zb6 := fkeep hb zb6
  replace zb7 := fkeep hb zb7
  replace zb8 := fkeep hb zb8
  replace zb9 := fkeep hb zb9
  replace zc0 := fkeep hb zc0
  replace zc1 := fkeep hb zc1
  replace zc2 := fkeep hb zc2
  replace zc3 := fkeep hb zc3
  replace zc4 := fkeep hb zc4
  replace zc5 := fkeep hb zc5
  replace zc6 := fkeep hb zc6
  replace zc7 := fkeep hb zc7
  replace zc8 := fkeep hb zc8
  replace zc9 := fkeep hb zc9
  clear hb HC3
  cases hy : svB n VY
  · have HE : Hid (CF = (false, false)) := by show _ = _; rw [HCF.out, if_neg (by rw [hy]; simp)]
    go_wp2
    go_ret2
    rw [HE.out]
    exact ⟨rfl, fstep HF3.out HB.out⟩
  have HE : Hid (CF = (compB n VX VY, true)) := by show _ = _; rw [HCF.out, if_pos ⟨hnet, hx, hy⟩]
  replace HC4 := Lib.hid (HC4.out hy w3 HB.out)
  obtain ⟨CB, hCB⟩ : ∃ C, C = compB n VX VY := ⟨_, rfl⟩
  rw [← hCB] at HC4 HE
  clear hCB hnet hx hy HCF
  go_wp2_with fail
  refine (HC4.out).mono ?_
  rintro e w5 ⟨rfl, hb⟩
  replace HB := Lib.hid (fstep HB.out hb)
  clear hb za0 za1 zb0 zb1 zb2 zb3 zb4 zb5 zb6 zb7 zb8 zb9 zc0 zc1 zc2 zc3 zc4 zc5 zc6 zc7 zc8 zc9
  go_wp2
  go_ret2
  rw [HE.out]
  exact ⟨rfl, fstep HF3.out HB.out⟩
end Go.Proofs.Ytipbbfeimdobeaa
