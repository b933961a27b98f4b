/- Contracts: copies of routes, networks, lights. -/
import Derived.Test.YteckjlkhopkogaaGreatPm3
import Derived.Test.YteckjlkhopkogaaGreatGp
import Derived.Deep.DeepCutAuto
import Derived.Deep.RegionLaw
namespace Go.Proofs.YteckjlkhopkogaaGreat
open Go.RowKit Go.PlainAid

theorem ownsRow_zero {w : World} {base : Nat} {E : TypeId} {size g : Nat} (hr : RowAt w g E []) (hg : base ≤ g) : w.ownsRow base E size (.slice (some ⟨g, 0, none⟩) 0 0) 0 [] :=
  ⟨by simp, Or.inr ⟨g, 0, #[], rfl, hg, hr, Nat.le_refl _, by simp [maxLen], by simp, by simp⟩⟩
theorem owns_cap {w : World} {base : Nat} {t : TypeId} {v : Value} {n : Nat} {xs : List Value} {size : Nat} (h : w.ownsRow base t size v n xs) : ∃ p cap, v = .slice p n cap ∧ Own w base t p xs ∧ n ≤ cap ∧ cap ≤ 9223372036854775807 := by
  obtain ⟨p, cap, hv, ho⟩ := own_of_row h
  refine ⟨p, cap, hv, ho, ?_⟩
  rcases h.2 with ⟨e, e2⟩ | ⟨g, c2, cur, e, _, _, h1, h2, _⟩
  · rw [hv] at e; cases e; exact ⟨by omega, by omega⟩
  · rw [hv] at e; cases e; exact ⟨h1, h2⟩
/-- The first append to a fresh empty row, as a step of a region that draws its order. -/
theorem step_app0 {T E : TypeId} {z : Value} {size bytes : Nat} (hu : Tryz.prog.underlying T = some (.slice E)) (hinfo : (Tryz.prog.info? E).map (fun i => (i.zero, i.size, i.bytes)) = some (some z, size, bytes))
    (hzs : z.cells.size = size) (hsz : 0 < size) (hby : bytes ≤ 128) {ops : Array Oper} {o : Oper} {a : Act} {w : World} {K : Act → World → Prop} {Q : Exit → Act → World → Prop} {F : Prop} (w0 : World) (g : Nat) (p : Option Addr) (m c : Nat) (news : List Value)
    (hgd : o.guard = none) (s t : Operand) (ho : o.op = .call { callee := .builtin .append, args := #[s, t], argTypes := #[T, T] }) (hs : a.eval s = .slice (some ⟨g, 0, none⟩) 0 0) (hr : RowAt w g E []) (hg : w0.heap.size ≤ g)
    (hx : a.eval t = .slice p m c) (hc : Cells w p news) (hl : news.length = m * size) (hone : ∀ u ∈ news, u.oneCell' = true) (hm : m ≤ 1048576) (hf : Fresh w0 w)
    (h : ∀ q' c' w', Own w' w0.heap.size E q' news → m ≤ c' → c' ≤ 9223372036854775807 → Fresh w0 w' → (∀ g t cs, RowAt w g t cs → t ≠ E → RowAt w' g t cs) → K (a.put o.dst (.slice q' m c')) w') :
    if Region.wanted o (yielded ops a.tmps) = true then Oper.wp Tryz.prog o a w K Q else F := by
  have hw : Region.wanted o (yielded ops a.tmps) = true := by simp [Region.wanted, hgd]
  rw [if_pos hw]
  obtain ⟨i0, hi, hz0, hz1, hz2⟩ := info_parts hinfo
  have hown := ownsRow_zero (size := size) hr hg
  rcases Nat.eq_zero_or_pos m with rfl | hm0
  · have hnil : news = [] := List.eq_nil_of_length_eq_zero (by simpa using hl)
    subst hnil
    have hrun := run_append_zero (P := Tryz.prog) (w := w) w0.heap.size T o.type E i0 size hu hi _ 0 [] hown p c
    unfold Oper.wp
    simp [execOp, ho, resolve, invoke, builtin, hs, hx, hrun, Result.andThen]
    exact h _ _ w (Or.inr ⟨g, [], rfl, hg, hr⟩) (Nat.le_refl _) (by omega) hf fun _ _ _ h _ => h
  · rcases hc with rfl | ⟨b, off, rfl, hc⟩
    · exfalso
      have : m * size = 0 := by simpa using hl.symm
      rcases Nat.mul_eq_zero.1 this with h' | h' <;> omega
    · refine wp_append_own w s t T ho w0.heap.size E i0 z size bytes hu hi hz0 hz1 hz2 hzs hsz _ 0 [] hs hown ⟨b, off, none⟩ m c news hx hl
        (fun j u hj => by
          have h0 := hc j u hj
          unfold Addr.add
          split
          · next e => subst e; exact h0
          · exact h0) hone (by unfold maxLen; omega) (Nat.le_trans (Nat.mul_le_mul (by omega : 0 + m ≤ 2097152) hby) (by omega)) hf.size ?_
      intro v' w' hown' hgrow _
      rw [Nat.zero_add, List.nil_append] at hown'
      obtain ⟨q', c', rfl, ho', h1, h2⟩ := owns_cap hown'
      exact h q' c' w' ho' h1 h2 (fgrown hf hgrow (own_block hown)) fun g t cs hr' ht => row_grown0 hown hgrow hr' ht
theorem rr0 (w : World) (a b c : Obj) {t : TypeId} {xs : List Value} (h : a = .cells xs.toArray t) : RowAt (((w.alloc a).alloc b).alloc c).drew w.heap.size t xs := by
  subst h; exact (((RowAt.new w t xs).alloc _).alloc _).keep (fdrew (frefl _))
theorem rr1 (w : World) (a b c : Obj) {t : TypeId} {xs : List Value} (h : b = .cells xs.toArray t) : RowAt (((w.alloc a).alloc b).alloc c).drew (w.heap.size + 1) t xs := by
  subst h
  have := RowAt.new (w.alloc a) t xs
  rw [show (w.alloc a).heap.size = w.heap.size + 1 by simp] at this
  exact (this.alloc _).keep (fdrew (frefl _))
theorem rr2 (w : World) (a b c : Obj) {t : TypeId} {xs : List Value} (h : c = .cells xs.toArray t) : RowAt (((w.alloc a).alloc b).alloc c).drew (w.heap.size + 1 + 1) t xs := by
  subst h
  have := RowAt.new ((w.alloc a).alloc b) t xs
  rw [show ((w.alloc a).alloc b).heap.size = w.heap.size + 1 + 1 by simp] at this
  exact this.keep (fdrew (frefl _))
theorem Own.setO {w : World} {base g : Nat} {t T : TypeId} {cs : List Value} {q : Option Addr} {xs : List Value} (h : Own w base t q xs) (hr : RowAt w g T cs) (hT : t ≠ T) (i : Nat) (v : Value) : Own (w.setCell ⟨g, i, none⟩ v) base t q xs := by
  rcases h with h | ⟨b, sp, h1, h2, h3⟩
  · exact Or.inl h
  · exact Or.inr ⟨b, sp, h1, h2, h3.setOther (fun e => by subst e; exact hT (h3.inj hr).1) _⟩
set_option maxHeartbeats 2000000 in
set_option maxRecDepth 20000 in
theorem copyRoute_any (s : Int) (q : Option Addr) (cap : Nat) (l : List Int) (w : World) (hI : Ints w q l) (hn : l.length ≤ 1048576) :
    Calls Tryz.prog 96 #[.agg #[.int .i64 s, .slice q l.length cap]] w fun e w' => ∃ q' c', e = .returned (.agg #[.int .i64 s, .slice q' l.length c']) ∧ Own w' w.heap.size 3 q' (l.map iv) ∧ Fresh w w' := by
  have HI : Hid (∀ a b c : Obj, Cells (((w.alloc a).alloc b).alloc c).drew q (l.map iv)) := fun a b c => hI.keep (fdrew (fnew (fnew (fnew (frefl _) _) _) _))
  clear hI
  go_enter Tryz.func96, Tryz.ntmps96
  go_upto_region 1 with fail
  go_cut [] (fun wx => ∃ q' c', RowAt wx (w.heap.size + 1) 90 [iv s, .slice q' l.length c'] ∧ Own wx w.heap.size 3 q' (l.map iv) ∧ Fresh w wx)
  case first =>
    go_region_law (refine step_app0 Tryz.underlying29 infoInt rfl (by decide) (by decide) w (w.heap.size + 1 + 1) q l.length cap (l.map iv) rfl _ _ rfl rfl (rr2 _ _ _ _ rfl) (by omega) rfl (HI.out _ _ _) (by simp) (one_ints l) hn (fdrew (fnew (fnew (fnew (frefl _) _) _) _)) ?_; intro q' c' w' ho hc1 hc2 hf hk; have hb2 := hk _ _ _ (rr1 _ _ _ _ rfl) (by decide); have hb1 := hk _ _ _ (rr0 _ _ _ _ rfl) (by decide); have e0 := hb1.cell (i := 0) rfl; have e1 := hb1.cell (i := 1) rfl; have f0 := hb2.cell (i := 0) rfl; have f1 := hb2.cell (i := 1) rfl; have z0 := hb2.frozen 0; have z1 := hb2.frozen 1; clear hk)
    all_goals (go_wp2_with fail)
    all_goals go_meet
    all_goals exact ⟨_, _, (hb2.set 0 _).set 1 _, (ho.setO hb2 (by decide) _ _).setO (hb2.set 0 _) (by decide) _ _, fset (fset hf (by omega) _) (by omega) _⟩
  case rest =>
    obtain ⟨q', c', hr, ho, hf⟩ := hcut
    have k0 := hr.cell (i := 0) rfl
    have k1 := hr.cell (i := 1) rfl
    go_wp2
    refine bodyPost_ret (v := .agg #[.int .i64 s, .slice q' l.length c']) (by simp [results, Tryz.results96, go_sem, k0, k1]) rfl ?_
    exact ⟨q', c', rfl, ho, hf⟩
end Go.Proofs.YteckjlkhopkogaaGreat
