/- Contracts: copies of networks, both sides. -/
import Derived.Test.YtlcppdbpajdnlaaGreatPc
import Derived.Deep.RegionHeld3
namespace Go.Proofs.YtlcppdbpajdnlaaGreat
open Go.RowKit Go.PlainAid

theorem rf1 (w : World) (a b c d : Obj) {t : TypeId} {xs : List Value} (h : b = .cells xs.toArray t) : RowAt ((((w.alloc a).alloc b).alloc c).alloc d).drew (w.heap.size + 1) t xs := by
  subst h
  have := RowAt.new (w.alloc a) t xs
  rw [show (w.alloc a).heap.size = w.heap.size + 1 by simp] at this
  exact ((this.alloc _).alloc _).keep (fdrew (frefl _))
theorem rf0 (w : World) (a b c d : Obj) {t : TypeId} {xs : List Value} (h : a = .cells xs.toArray t) : RowAt ((((w.alloc a).alloc b).alloc c).alloc d).drew w.heap.size t xs := by
  subst h; exact ((((RowAt.new w t xs).alloc _).alloc _).alloc _).keep (fdrew (frefl _))
theorem rf2 (w : World) (a b c d : Obj) {t : TypeId} {xs : List Value} (h : c = .cells xs.toArray t) : RowAt ((((w.alloc a).alloc b).alloc c).alloc d).drew (w.heap.size + 1 + 1) t xs := by
  subst h
  have := RowAt.new ((w.alloc a).alloc b) t xs
  rw [show ((w.alloc a).alloc b).heap.size = w.heap.size + 1 + 1 by simp] at this
  exact (this.alloc _).keep (fdrew (frefl _))
theorem rf3 (w : World) (a b c d : Obj) {t : TypeId} {xs : List Value} (h : d = .cells xs.toArray t) : RowAt ((((w.alloc a).alloc b).alloc c).alloc d).drew (w.heap.size + 1 + 1 + 1) t xs := by
  subst h
  have := RowAt.new (((w.alloc a).alloc b).alloc c) t xs
  rw [show (((w.alloc a).alloc b).alloc c).heap.size = w.heap.size + 1 + 1 + 1 by simp] at this
  exact this.keep (fdrew (frefl _))
theorem one_strs (l : List ByteArray) : ∀ u ∈ l.map Value.string, u.oneCell' = true := by
  intro u hu
  obtain ⟨x, _, rfl⟩ := List.mem_map.1 hu
  rfl
theorem one_fibs (l : List Fib) : ∀ u ∈ l.flatMap fibC, u.oneCell' = true := by
  intro u hu
  obtain ⟨x, _, hx⟩ := List.mem_flatMap.1 hu
  simp [fibC] at hx
  rcases hx with rfl | rfl | rfl | rfl <;> rfl
theorem kp2 {w w1 w2 : World} {b0 o0 b1 o1 : Nat} {v0 v1 : Value} (h : Fresh w w1 ∧ w1.cell? ⟨b0, o0, none⟩ = some v0 ∧ w1.cell? ⟨b1, o1, none⟩ = some v1) (hb : Fresh w1 w2) : Fresh w w2 ∧ w2.cell? ⟨b0, o0, none⟩ = some v0 ∧ w2.cell? ⟨b1, o1, none⟩ = some v1 :=
  ⟨fstep h.1 hb, fkeep hb h.2.1, fkeep hb h.2.2⟩
theorem step_app0D {T E : TypeId} {z : Value} {size bytes : Nat} {ops : Array Oper} {o : Oper} {a : Act} {w : World} {K : Act → World → Prop} {Q : Exit → Act → World → Prop} {F : Prop} (dd : Option Nat) (_hd : o.dst = dd) (hu : Tryz.prog.underlying T = some (.slice E)) (hinfo : (Tryz.prog.info? E).map (fun i => (i.zero, i.size, i.bytes)) = some (some z, size, bytes))
    (hzs : z.cells.size = size) (hsz : 0 < size) (hby : bytes ≤ 128) (w0 : World) (g : Nat) (p : Option Addr) (m c : Nat) (news : List Value)
    (hgd : o.guard = none) (s t : Operand) (ho : o.op = .call { callee := .builtin .append, args := #[s, t], argTypes := #[T, T] }) (hs : a.eval s = .slice (some ⟨g, 0, none⟩) 0 0) (hr : RowAt w g E []) (hg : w0.heap.size ≤ g)
    (hx : a.eval t = .slice p m c) (hc : Cells w p news) (hl : news.length = m * size) (hone : ∀ u ∈ news, u.oneCell' = true) (hm : m ≤ 1048576) (hf : Fresh w0 w)
    (h : ∀ q' c' w', Own w' w0.heap.size E q' news → m ≤ c' → c' ≤ 9223372036854775807 → Fresh w0 w' → (∀ g t cs, RowAt w g t cs → t ≠ E → RowAt w' g t cs) → K (a.put o.dst (.slice q' m c')) w') :
    if Region.wanted o (yielded ops a.tmps) = true then Oper.wp Tryz.prog o a w K Q else F := step_app0 hu hinfo hzs hsz hby w0 g p m c news hgd s t ho hs hr hg hx hc hl hone hm hf h
def OutNetC (w : World) (n : Net) (e : Ending) (w' : World) : Prop := ∃ q c p d, e = .returned (.agg #[.slice q n.nodes.length c, .slice p n.fibers.length d]) ∧ Own w' w.heap.size 9 q (n.nodes.map Value.string) ∧ Own w' w.heap.size 101 p (n.fibers.flatMap fibC) ∧ n.nodes.length ≤ c ∧ c ≤ 9223372036854775807 ∧ Fresh w w'
end Go.Proofs.YtlcppdbpajdnlaaGreat
