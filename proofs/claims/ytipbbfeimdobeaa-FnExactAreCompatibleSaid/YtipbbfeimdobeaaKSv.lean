/- Lists of services as one value: weighed, copied, compared. -/
import Derived.Test.YtipbbfeimdobeaaSv
namespace Go.Proofs.Ytipbbfeimdobeaa
open Go.RowKit Go.PlainAid

def SlRaw (w : World) (v : Value) (L : List SvV) : Prop := ∃ p cap, ∃ l : List LS, v = .slice p l.length cap ∧ Svs w p l ∧ l.length ≤ 9223372036854775807 ∧ (∀ x ∈ l, SvSm 9223372036854775807 x) ∧ L = l.map LS.val
def SvVSm (x : SvV) : Prop := x.w.2.length ≤ 1048576 ∧ x.s.2.length ≤ 1048576
def SlSmall (L : List SvV) : Prop := L.length ≤ 1048576 ∧ ∀ x ∈ L, SvVSm x
def SlIn (w : World) (v : Value) (L : List SvV) : Prop := ∃ p cap, ∃ l : List LS, v = .slice p l.length cap ∧ Svs w p l ∧ SvsSmall l ∧ L = l.map LS.val
def SlC (w : World) (v : Value) (L : List SvV) : Prop := ∃ p cap, ∃ l : List LS, v = .slice p l.length cap ∧ Svs w p l ∧ SvsSmall l ∧ l.length ≤ cap ∧ L = l.map LS.val
theorem SlRaw.keep {w w' : World} {v : Value} {L : List SvV} (h : SlRaw w v L) (hb : Fresh w w') : SlRaw w' v L := by
  obtain ⟨p, cap, l, h1, h2, r⟩ := h
  exact ⟨p, cap, l, h1, h2.keep hb, r⟩
theorem SlIn.keep {w w' : World} {v : Value} {L : List SvV} (h : SlIn w v L) (hb : Fresh w w') : SlIn w' v L := by
  obtain ⟨p, cap, l, h1, h2, r⟩ := h
  exact ⟨p, cap, l, h1, h2.keep hb, r⟩
theorem SlC.keep {w w' : World} {v : Value} {L : List SvV} (h : SlC w v L) (hb : Fresh w w') : SlC w' v L := by
  obtain ⟨p, cap, l, h1, h2, r⟩ := h
  exact ⟨p, cap, l, h1, h2.keep hb, r⟩
theorem slsmall_of {l : List LS} (h : SvsSmall l) : SlSmall (l.map LS.val) := by
  refine ⟨by simpa using h.1, fun x hx => ?_⟩
  obtain ⟨y, hy, rfl⟩ := List.mem_map.1 hx
  exact h.2 y hy
theorem slsmall_to {l : List LS} (h : SlSmall (l.map LS.val)) : SvsSmall l :=
  ⟨by simpa using h.1, fun x hx => h.2 x.val (List.mem_map_of_mem hx)⟩
theorem SlRaw.small {w : World} {v : Value} {L : List SvV} (h : SlRaw w v L) (hs : SlSmall L) : SlIn w v L := by
  obtain ⟨p, cap, l, h1, h2, _, _, rfl⟩ := h
  exact ⟨p, cap, l, h1, h2, slsmall_to hs, rfl⟩
section
open Go.ChangeShapes Go.WideShapes Go.ChangeAt Go.Joins
instance : Inhabited LS := ⟨⟨0, 0, default, 0, 0, default, 0, 0⟩⟩
theorem cells_sv : Try.prog.cellsOf 51 = 10 := by kernel_rfl
variable {H : Type} {enc : TypeId × Value → H}
theorem ten_cells {cs : List Value} (h : cs.length = 10) : ∃ u0 u1 u2 u3 u4 u5 u6 u7 u8 u9, cs = [u0, u1, u2, u3, u4, u5, u6, u7, u8, u9] := by
  match cs, h with
  | [u0, u1, u2, u3, u4, u5, u6, u7, u8, u9], _ => exact ⟨u0, u1, u2, u3, u4, u5, u6, u7, u8, u9, rfl⟩
set_option maxRecDepth 100000 in
theorem six_fields {P : Program} {W : World} {t : TypeId} {f0 f1 f2 f3 f4 f5 : Field} {fuel : Nat} {cs : List Value} {x : DataW H × List MemPlace} (ht : P.underlying t = some (.struct #[f0, f1, f2, f3, f4, f5])) (h : DataW.trod enc P W 0 (fun _ => true) true fuel t cs = some x) :
    ∃ y0 y1 y2 y3 y4 y5 n, cs.length = P.cellsOf t ∧ DataW.trod enc P W 0 (fun _ => true) true n f0.type ((cs.drop f0.offset).take (P.cellsOf f0.type)) = some y0 ∧ DataW.trod enc P W 0 (fun _ => true) true n f1.type ((cs.drop f1.offset).take (P.cellsOf f1.type)) = some y1 ∧
      DataW.trod enc P W 0 (fun _ => true) true n f2.type ((cs.drop f2.offset).take (P.cellsOf f2.type)) = some y2 ∧ DataW.trod enc P W 0 (fun _ => true) true n f3.type ((cs.drop f3.offset).take (P.cellsOf f3.type)) = some y3 ∧
      DataW.trod enc P W 0 (fun _ => true) true n f4.type ((cs.drop f4.offset).take (P.cellsOf f4.type)) = some y4 ∧ DataW.trod enc P W 0 (fun _ => true) true n f5.type ((cs.drop f5.offset).take (P.cellsOf f5.type)) = some y5 := by
  obtain ⟨xs, n, _, rfl, hl, hlen, hf⟩ := DataW.trod_struct ht h
  match xs, hlen with
  | [y0, y1, y2, y3, y4, y5], _ => exact ⟨y0, y1, y2, y3, y4, y5, n, hl, by simpa using hf 0 f0 rfl, by simpa using hf 1 f1 rfl, by simpa using hf 2 f2 rfl, by simpa using hf 3 f3 rfl, by simpa using hf 4 f4 rfl, by simpa using hf 5 f5 rfl⟩
set_option maxRecDepth 100000 in
theorem sv_of_cells {W : World} {fuel : Nat} {cs : List Value} {x : DataW H × List MemPlace} (h : DataW.trod enc Try.prog W 0 (fun _ => true) true fuel 51 cs = some x) :
    ∃ a : LS, cs = lsC a ∧ ((Ints W a.w.q a.w.fibs ∧ Ints W a.s.q a.s.fibs) ∧ SvSm 9223372036854775807 a) := by
  obtain ⟨y0, y1, y2, y3, y4, y5, k, hlen, g0, g1, g2, g3, g4, g5⟩ := six_fields Try.underlying51 h
  rw [cells_sv] at hlen
  obtain ⟨u0, u1, u2, u3, u4, u5, u6, u7, u8, u9, rfl⟩ := ten_cells hlen
  have h0 : DataW.trod enc Try.prog W 0 (fun _ => true) true k 3 [u0] = some y0 := by
    have := g0; simp only at this; rw [cells_i] at this; exact this
  have h1 : DataW.trod enc Try.prog W 0 (fun _ => true) true k 3 [u1] = some y1 := by
    have := g1; simp only at this; rw [cells_i] at this; exact this
  have h2 : DataW.trod enc Try.prog W 0 (fun _ => true) true k 47 [u2, u3] = some y2 := by
    have := g2; simp only at this; rw [cells_rt] at this; exact this
  have h3 : DataW.trod enc Try.prog W 0 (fun _ => true) true k 49 [u4, u5] = some y3 := by
    have := g3; simp only at this; rw [cells_bk] at this; exact this
  have h4 : DataW.trod enc Try.prog W 0 (fun _ => true) true k 47 [u6, u7] = some y4 := by
    have := g4; simp only at this; rw [cells_rt] at this; exact this
  have h5 : DataW.trod enc Try.prog W 0 (fun _ => true) true k 49 [u8, u9] = some y5 := by
    have := g5; simp only at this; rw [cells_bk] at this; exact this
  obtain ⟨id, e0, _, _⟩ := DataW.trod_int Try.underlying3 h0
  obtain ⟨cl, e1, _, _⟩ := DataW.trod_int Try.underlying3 h1
  obtain ⟨⟨s, q, cap, l⟩, e2, hI, hn⟩ := route_of_cells h2
  obtain ⟨f, c, e3⟩ := block_of_cells h3
  obtain ⟨⟨s', q', cap', l'⟩, e4, hI', hn'⟩ := route_of_cells h4
  obtain ⟨f', c', e5⟩ := block_of_cells h5
  cases e0; cases e1; cases e2; cases e3; cases e4; cases e5
  exact ⟨⟨id, cl, ⟨s, q, cap, l⟩, f, c, ⟨s', q', cap', l'⟩, f', c'⟩, rfl, ⟨hI, hI'⟩, ⟨hn, hn'⟩⟩
end
end Go.Proofs.Ytipbbfeimdobeaa
