/- Contracts: copies of routes and lights, the reference's side; an append of one element as a step of a region that draws. -/
import Derived.Test.YtlcppdbpajdnlaaGreatPc2
import Derived.Test.YtlcppdbpajdnlaaGreatU1
namespace Go.Proofs.YtlcppdbpajdnlaaGreat
open Go.RowKit Go.PlainAid

theorem wpList_app0 {T E : TypeId} {z : Value} {size bytes : Nat} (hu : Tryz.prog.underlying T = some (.slice E)) (hinfo : (Tryz.prog.info? E).map (fun i => (i.zero, i.size, i.bytes)) = some (some z, size, bytes))
    (hzs : z.cells.size = size) (hsz : 0 < size) (hby : bytes ≤ 128) {ops : Array Oper} {rest : List Oper} {o : Oper} {a : Act} {w : World} {Q : Exit → Act → World → Prop} (w0 : World) (g : Nat) (p : Option Addr) (m c : Nat) (news : List Value)
    (hgd : o.guard = none) (s t : Operand) (ho : o.op = .call { callee := .builtin .append, args := #[s, t], argTypes := #[T, T] }) (hs : a.eval s = .slice (some ⟨g, 0, none⟩) 0 0) (hr : RowAt w g E []) (hg : w0.heap.size ≤ g)
    (hx : a.eval t = .slice p m c) (hc : Cells w p news) (hl : news.length = m * size) (hone : ∀ u ∈ news, u.oneCell' = true) (hm : m ≤ 1048576) (hf : Fresh w0 w)
    (h : ∀ q' c' w', Own w' w0.heap.size E q' news → m ≤ c' → c' ≤ 9223372036854775807 → Fresh w0 w' → (∀ g t cs, RowAt w g t cs → t ≠ E → RowAt w' g t cs) → wpList Tryz.prog ops Q rest (a.put o.dst (.slice q' m c')) w') :
    wpList Tryz.prog ops Q (o :: rest) a w :=
  wpList_plain hgd fun K hK => by
    have hw : Region.wanted o (yielded #[] a.tmps) = true := by simp [Region.wanted, hgd]
    have := step_app0 (ops := #[]) (K := K) (Q := Q) (F := True) hu hinfo hzs hsz hby w0 g p m c news hgd s t ho hs hr hg hx hc hl hone hm hf fun q' c' w' h1 h2 h3 h4 h5 => hK _ _ (h q' c' w' h1 h2 h3 h4 h5)
    rw [if_pos hw] at this
    exact this
/-- One more element, as a step of a region that draws its order. -/
theorem step_app_g {T E : TypeId} {z : Value} {size bytes : Nat} (hu : Tryz.prog.underlying T = some (.slice E)) (hinfo : (Tryz.prog.info? E).map (fun i => (i.zero, i.size, i.bytes)) = some (some z, size, bytes))
    (hzs : z.cells.size = size) (hsz : 0 < size) (hby : bytes ≤ 128) {ops : Array Oper} {o : Oper} {a : Act} {K : Act → World → Prop} {Q : Exit → Act → World → Prop} {F : Prop} (w0 w1 : World) (v : Value) (n : Nat) (xs news : List Value)
    (g0 : Nat) (hl : news.length = size) (hone : ∀ u ∈ news, u.oneCell' = true) (hgd : o.guard = none) (s t : Operand)
    (ho : o.op = .call { callee := .builtin .append, args := #[s, t], argTypes := #[T, T] }) (hs : a.eval s = v) (hown : w1.ownsRow w0.heap.size E size v n xs)
    (hx : a.eval t = .slice (some ⟨g0, 0, none⟩) 1 1) (hg0 : g0 = w1.heap.size) (hn : n ≤ 1048576) (hf : Fresh w0 w1)
    (h : ∀ v' w', w'.ownsRow w0.heap.size E size v' (n + 1) (xs ++ news) → Fresh w0 w' → (∀ g t cs, RowAt w1 g t cs → t ≠ E → RowAt w' g t cs) → K (a.put o.dst v') w') :
    if Region.wanted o (yielded ops a.tmps) = true then Oper.wp Tryz.prog o a (w1.alloc (.cells news.toArray E)) K Q else F := by
  have hw : Region.wanted o (yielded ops a.tmps) = true := by simp [Region.wanted, hgd]
  rw [if_pos hw]
  subst hg0
  obtain ⟨i0, hi, hz0, hz1, hz2⟩ := info_parts hinfo
  refine wp_append_own _ s t T ho w0.heap.size E i0 z size bytes hu hi hz0 hz1 hz2 hzs hsz v n xs hs (hown.alloc _) ⟨w1.heap.size, 0, none⟩ 1 1 news hx (by omega)
    (add_new w1 E news) hone (by unfold maxLen; omega) (Nat.le_trans (Nat.mul_le_mul (by omega : n + 1 ≤ 1048577) hby) (by omega)) (Nat.le_trans hf.size (by simp)) ?_
  intro v' w' hown' hgrow _
  exact h v' w' hown' (fgrown (fnew hf _) hgrow (own_block hown)) fun g t cs hr ht => row_grown hown hgrow hr ht
set_option maxHeartbeats 2000000 in
theorem l1Own_any (q : Option Addr) (cap : Nat) (l : List Int) (w : World) (hI : Ints w q l) (hn : l.length ≤ 1048576) :
    Calls Tryz.prog 100 #[.slice q l.length cap] w fun e w' => ∃ q' c', e = .returned (.slice q' l.length c') ∧ Own w' w.heap.size 3 q' (l.map iv) ∧ Fresh w w' := by
  have HI : Hid (∀ a : Obj, Cells (w.alloc a) q (l.map iv)) := fun a => hI.keep (fnew (frefl _) _)
  clear hI
  go_enter Tryz.func100, Tryz.ntmps100
  go_wp2_with (at_builtin; refine wpList_app0 Tryz.underlying32 infoInt rfl (by decide) (by decide) w w.heap.size q l.length cap (l.map iv) rfl _ _ rfl rfl (RowAt.new w 3 []) (Nat.le_refl _) rfl (HI.out _) (by simp) (one_ints l) hn (fnew (frefl _) _) ?_; intro q' c' w' ho hc1 hc2 hf hk)
  have HO := Lib.hid ho
  have HF := Lib.hid hf
  clear ho hf hk
  go_wp2
  go_ret
  exact ⟨q', c', rfl, HO.out, HF.out⟩
end Go.Proofs.YtlcppdbpajdnlaaGreat
