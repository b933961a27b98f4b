/- Texts of mine laid together (Pc, Pc2, Pc3, Pc4, Hd, Pc5, Pc6). -/
import Derived.Test.YtjhaoonacjebpaaGreatDoorM2
import Derived.Deep.DeepCutAuto
import Derived.Deep.RegionLaw
import Derived.Deep.RegionHeld3
import Derived.Test.YtjhaoonacjebpaaGreatDoorU1
/- Contracts: copies of routes, networks, lights. -/
namespace Go.Proofs.YtjhaoonacjebpaaGreatDoor
open Go.RowKit Go.PlainAid

theorem ownsRow_zero {w : World} {base : Nat} {E : TypeId} {size g : Nat} (hr : RowAt w g E []) (hg : base ≤ g) : w.ownsRow base E size (.slice (some ⟨g, 0, none⟩) 0 0) 0 [] :=
  ⟨by simp, Or.inr ⟨g, 0, #[], rfl, hg, hr, Nat.le_refl _, by simp [maxLen], by simp, by simp⟩⟩
theorem owns_cap {w : World} {base : Nat} {t : TypeId} {v : Value} {n : Nat} {xs : List Value} {size : Nat} (h : w.ownsRow base t size v n xs) : ∃ p cap, v = .slice p n cap ∧ Own w base t p xs ∧ n ≤ cap ∧ cap ≤ 9223372036854775807 := by
  obtain ⟨p, cap, hv, ho⟩ := own_of_row h
  refine ⟨p, cap, hv, ho, ?_⟩
  rcases h.2 with ⟨e, e2⟩ | ⟨g, c2, cur, e, _, _, h1, h2, _⟩
  · rw [hv] at e; cases e; exact ⟨by omega, by omega⟩
  · rw [hv] at e; cases e; exact ⟨h1, h2⟩
/-- The first append to a fresh empty row, as a step of a region that draws its order. -/
theorem step_app0 {T E : TypeId} {z : Value} {size bytes : Nat} (hu : Tryz.prog.underlying T = some (.slice E)) (hinfo : (Tryz.prog.info? E).map (fun i => (i.zero, i.size, i.bytes)) = some (some z, size, bytes))
    (hzs : z.cells.size = size) (hsz : 0 < size) (hby : bytes ≤ 128) {ops : Array Oper} {o : Oper} {a : Act} {w : World} {K : Act → World → Prop} {Q : Exit → Act → World → Prop} {F : Prop} (w0 : World) (g : Nat) (p : Option Addr) (m c : Nat) (news : List Value)
    (hgd : o.guard = none) (s t : Operand) (ho : o.op = .call { callee := .builtin .append, args := #[s, t], argTypes := #[T, T] }) (hs : a.eval s = .slice (some ⟨g, 0, none⟩) 0 0) (hr : RowAt w g E []) (hg : w0.heap.size ≤ g)
    (hx : a.eval t = .slice p m c) (hc : Cells w p news) (hl : news.length = m * size) (hone : ∀ u ∈ news, u.oneCell' = true) (hm : m ≤ 1048576) (hf : Fresh w0 w)
    (h : ∀ q' c' w', Own w' w0.heap.size E q' news → m ≤ c' → c' ≤ 9223372036854775807 → Fresh w0 w' → (∀ g t cs, RowAt w g t cs → t ≠ E → RowAt w' g t cs) → K (a.put o.dst (.slice q' m c')) w') :
    if Region.wanted o (yielded ops a.tmps) = true then Oper.wp Tryz.prog o a w K Q else F := by
  have hw : Region.wanted o (yielded ops a.tmps) = true := by simp [Region.wanted, hgd]
  rw [if_pos hw]
  obtain ⟨i0, hi, hz0, hz1, hz2⟩ := info_parts hinfo
  have hown := ownsRow_zero (size := size) hr hg
  rcases Nat.eq_zero_or_pos m with rfl | hm0
  · have hnil : news = [] := List.eq_nil_of_length_eq_zero (by simpa using hl)
    subst hnil
    have hrun := run_append_zero (P := Tryz.prog) (w := w) w0.heap.size T o.type E i0 size hu hi _ 0 [] hown p c
    unfold Oper.wp
    simp [execOp, ho, resolve, invoke, builtin, hs, hx, hrun, Result.andThen]
    exact h _ _ w (Or.inr ⟨g, [], rfl, hg, hr⟩) (Nat.le_refl _) (by omega) hf fun _ _ _ h _ => h
  · rcases hc with rfl | ⟨b, off, rfl, hc⟩
    · exfalso
      have : m * size = 0 := by simpa using hl.symm
      rcases Nat.mul_eq_zero.1 this with h' | h' <;> omega
    · refine wp_append_own w s t T ho w0.heap.size E i0 z size bytes hu hi hz0 hz1 hz2 hzs hsz _ 0 [] hs hown ⟨b, off, none⟩ m c news hx hl
        (fun j u hj => by
          have h0 := hc j u hj
          unfold Addr.add
          split
          · next e => subst e; exact h0
          · exact h0) hone (by unfold maxLen; omega) (Nat.le_trans (Nat.mul_le_mul (by omega : 0 + m ≤ 2097152) hby) (by omega)) hf.size ?_
      intro v' w' hown' hgrow _
      rw [Nat.zero_add, List.nil_append] at hown'
      obtain ⟨q', c', rfl, ho', h1, h2⟩ := owns_cap hown'
      exact h q' c' w' ho' h1 h2 (fgrown hf hgrow (own_block hown)) fun g t cs hr' ht => row_grown0 hown hgrow hr' ht
theorem rr0 (w : World) (a b c : Obj) {t : TypeId} {xs : List Value} (h : a = .cells xs.toArray t) : RowAt (((w.alloc a).alloc b).alloc c).drew w.heap.size t xs := by
  subst h; exact (((RowAt.new w t xs).alloc _).alloc _).keep (fdrew (frefl _))
theorem rr1 (w : World) (a b c : Obj) {t : TypeId} {xs : List Value} (h : b = .cells xs.toArray t) : RowAt (((w.alloc a).alloc b).alloc c).drew (w.heap.size + 1) t xs := by
  subst h
  have := RowAt.new (w.alloc a) t xs
  rw [show (w.alloc a).heap.size = w.heap.size + 1 by simp] at this
  exact (this.alloc _).keep (fdrew (frefl _))
theorem rr2 (w : World) (a b c : Obj) {t : TypeId} {xs : List Value} (h : c = .cells xs.toArray t) : RowAt (((w.alloc a).alloc b).alloc c).drew (w.heap.size + 1 + 1) t xs := by
  subst h
  have := RowAt.new ((w.alloc a).alloc b) t xs
  rw [show ((w.alloc a).alloc b).heap.size = w.heap.size + 1 + 1 by simp] at this
  exact this.keep (fdrew (frefl _))
theorem Own.setO {w : World} {base g : Nat} {t T : TypeId} {cs : List Value} {q : Option Addr} {xs : List Value} (h : Own w base t q xs) (hr : RowAt w g T cs) (hT : t ≠ T) (i : Nat) (v : Value) : Own (w.setCell ⟨g, i, none⟩ v) base t q xs := by
  rcases h with h | ⟨b, sp, h1, h2, h3⟩
  · exact Or.inl h
  · exact Or.inr ⟨b, sp, h1, h2, h3.setOther (fun e => by subst e; exact hT (h3.inj hr).1) _⟩
end Go.Proofs.YtjhaoonacjebpaaGreatDoor

/- Contracts: copies of networks, both sides. -/
namespace Go.Proofs.YtjhaoonacjebpaaGreatDoor
open Go.RowKit Go.PlainAid

theorem rf1 (w : World) (a b c d : Obj) {t : TypeId} {xs : List Value} (h : b = .cells xs.toArray t) : RowAt ((((w.alloc a).alloc b).alloc c).alloc d).drew (w.heap.size + 1) t xs := by
  subst h
  have := RowAt.new (w.alloc a) t xs
  rw [show (w.alloc a).heap.size = w.heap.size + 1 by simp] at this
  exact ((this.alloc _).alloc _).keep (fdrew (frefl _))
theorem rf0 (w : World) (a b c d : Obj) {t : TypeId} {xs : List Value} (h : a = .cells xs.toArray t) : RowAt ((((w.alloc a).alloc b).alloc c).alloc d).drew w.heap.size t xs := by
  subst h; exact ((((RowAt.new w t xs).alloc _).alloc _).alloc _).keep (fdrew (frefl _))
theorem rf2 (w : World) (a b c d : Obj) {t : TypeId} {xs : List Value} (h : c = .cells xs.toArray t) : RowAt ((((w.alloc a).alloc b).alloc c).alloc d).drew (w.heap.size + 1 + 1) t xs := by
  subst h
  have := RowAt.new ((w.alloc a).alloc b) t xs
  rw [show ((w.alloc a).alloc b).heap.size = w.heap.size + 1 + 1 by simp] at this
  exact (this.alloc _).keep (fdrew (frefl _))
theorem rf3 (w : World) (a b c d : Obj) {t : TypeId} {xs : List Value} (h : d = .cells xs.toArray t) : RowAt ((((w.alloc a).alloc b).alloc c).alloc d).drew (w.heap.size + 1 + 1 + 1) t xs := by
  subst h
  have := RowAt.new (((w.alloc a).alloc b).alloc c) t xs
  rw [show (((w.alloc a).alloc b).alloc c).heap.size = w.heap.size + 1 + 1 + 1 by simp] at this
  exact this.keep (fdrew (frefl _))
theorem one_strs (l : List ByteArray) : ∀ u ∈ l.map Value.string, u.oneCell' = true := by
  intro u hu
  obtain ⟨x, _, rfl⟩ := List.mem_map.1 hu
  rfl
theorem one_fibs (l : List Fib) : ∀ u ∈ l.flatMap fibC, u.oneCell' = true := by
  intro u hu
  obtain ⟨x, _, hx⟩ := List.mem_flatMap.1 hu
  simp [fibC] at hx
  rcases hx with rfl | rfl | rfl | rfl <;> rfl
theorem kp2 {w w1 w2 : World} {b0 o0 b1 o1 : Nat} {v0 v1 : Value} (h : Fresh w w1 ∧ w1.cell? ⟨b0, o0, none⟩ = some v0 ∧ w1.cell? ⟨b1, o1, none⟩ = some v1) (hb : Fresh w1 w2) : Fresh w w2 ∧ w2.cell? ⟨b0, o0, none⟩ = some v0 ∧ w2.cell? ⟨b1, o1, none⟩ = some v1 :=
  ⟨fstep h.1 hb, fkeep hb h.2.1, fkeep hb h.2.2⟩
theorem step_app0D {T E : TypeId} {z : Value} {size bytes : Nat} {ops : Array Oper} {o : Oper} {a : Act} {w : World} {K : Act → World → Prop} {Q : Exit → Act → World → Prop} {F : Prop} (dd : Option Nat) (_hd : o.dst = dd) (hu : Tryz.prog.underlying T = some (.slice E)) (hinfo : (Tryz.prog.info? E).map (fun i => (i.zero, i.size, i.bytes)) = some (some z, size, bytes))
    (hzs : z.cells.size = size) (hsz : 0 < size) (hby : bytes ≤ 128) (w0 : World) (g : Nat) (p : Option Addr) (m c : Nat) (news : List Value)
    (hgd : o.guard = none) (s t : Operand) (ho : o.op = .call { callee := .builtin .append, args := #[s, t], argTypes := #[T, T] }) (hs : a.eval s = .slice (some ⟨g, 0, none⟩) 0 0) (hr : RowAt w g E []) (hg : w0.heap.size ≤ g)
    (hx : a.eval t = .slice p m c) (hc : Cells w p news) (hl : news.length = m * size) (hone : ∀ u ∈ news, u.oneCell' = true) (hm : m ≤ 1048576) (hf : Fresh w0 w)
    (h : ∀ q' c' w', Own w' w0.heap.size E q' news → m ≤ c' → c' ≤ 9223372036854775807 → Fresh w0 w' → (∀ g t cs, RowAt w g t cs → t ≠ E → RowAt w' g t cs) → K (a.put o.dst (.slice q' m c')) w') :
    if Region.wanted o (yielded ops a.tmps) = true then Oper.wp Tryz.prog o a w K Q else F := step_app0 hu hinfo hzs hsz hby w0 g p m c news hgd s t ho hs hr hg hx hc hl hone hm hf h
def OutNetC (w : World) (n : Net) (e : Ending) (w' : World) : Prop := ∃ q c p d, e = .returned (.agg #[.slice q n.nodes.length c, .slice p n.fibers.length d]) ∧ Own w' w.heap.size 9 q (n.nodes.map Value.string) ∧ Own w' w.heap.size 96 p (n.fibers.flatMap fibC) ∧ n.nodes.length ≤ c ∧ c ≤ 9223372036854775807 ∧ Fresh w w'
set_option maxHeartbeats 8000000 in
set_option maxRecDepth 20000 in
theorem copyNetwork_any (v : Value) (n : Net) (w : World) (h : NetIn w v n) : Calls Tryz.prog 67 #[v] w (OutNetC w n) := by
  obtain ⟨q, c, p, d, rfl, hq, hp, hnn, hnf, _⟩ := h
  have HS : Hid (∀ W, Fresh w W → Cells W q (n.nodes.map Value.string)) := fun W hW => Cells.keep hq hW
  have HP : Hid (∀ W, Fresh w W → Cells W p (n.fibers.flatMap fibC)) := fun W hW => Cells.keep hp hW
  obtain ⟨nn, hn1⟩ : ∃ k, k = n.nodes.length := ⟨_, rfl⟩
  obtain ⟨nf, hn2⟩ : ∃ k, k = n.fibers.length := ⟨_, rfl⟩
  have hls : (n.nodes.map Value.string).length = nn * 1 := by simp [hn1]
  have hlf : (n.fibers.flatMap fibC).length = nf * 4 := by rw [flat_len fibC 4 (fun _ => rfl), hn2]
  unfold OutNetC
  rw [← hn1, ← hn2]
  rw [← hn1] at hnn
  rw [← hn2] at hnf
  have HLS := Lib.hid hls
  have HLF := Lib.hid hlf
  clear hq hp hn1 hn2 hls hlf
  go_enter Tryz.func67, Tryz.ntmps67
  go_upto_region 1 with fail
  go_cut [] (fun wx => ∃ q' c' p' d', RowAt wx (w.heap.size + 1) 34 [.slice q' nn c', .slice p' nf d'] ∧ Own wx w.heap.size 9 q' (n.nodes.map Value.string) ∧ Own wx w.heap.size 96 p' (n.fibers.flatMap fibC) ∧ nn ≤ c' ∧ c' ≤ 9223372036854775807 ∧ Fresh w wx)
  case first =>
    have HSS0 : Fresh w ((w.alloc (.cells #[.slice q nn c, .slice p nf d] 34)).alloc (.cells #[.slice none 0 0, .slice none 0 0] 34)) ∧ ((w.alloc (.cells #[.slice q nn c, .slice p nf d] 34)).alloc (.cells #[.slice none 0 0, .slice none 0 0] 34)).cell? ⟨w.heap.size, 0, none⟩ = some (.slice q nn c) ∧ ((w.alloc (.cells #[.slice q nn c, .slice p nf d] 34)).alloc (.cells #[.slice none 0 0, .slice none 0 0] 34)).cell? ⟨w.heap.size, 1, none⟩ = some (.slice p nf d) :=
      ⟨fnew (fnew (frefl _) _) _, ((RowAt.new w 34 [.slice q nn c, .slice p nf d]).alloc _).cell (i := 0) rfl, ((RowAt.new w 34 [.slice q nn c, .slice p nf d]).alloc _).cell (i := 1) rfl⟩
    go_region_held3 (fun w' => Fresh w w' ∧ w'.cell? ⟨w.heap.size, 0, none⟩ = some (.slice q nn c) ∧ w'.cell? ⟨w.heap.size, 1, none⟩ = some (.slice p nf d))
      (first | with_reducible assumption | exact ⟨fset (fset hf2 (by omega) _) (by omega) _, ((hb1b.setOther (by omega) _).setOther (by omega) _).cell (i := 0) rfl, ((hb1b.setOther (by omega) _).setOther (by omega) _).cell (i := 1) rfl⟩ | with_reducible exact kp2 (by assumption) (fdrew (frefl _)) | with_reducible exact kp2 (by assumption) (frefl _) | with_reducible exact kp2 (by assumption) (fnew (frefl _) _) | with_reducible exact kp2 (by assumption) (fdrew (fnew (frefl _) _)) | with_reducible exact kp2 (by assumption) (fdrew (fnew (fnew (frefl _) _) _)) | with_reducible exact kp2 (by assumption) (fnew (fnew (frefl _) _) _))
      (first | (have _h := hk; refine step_app0D (some 6) rfl Tryz.underlying22 infoStr rfl (by decide) (by decide) w _ q nn _ (n.nodes.map Value.string) rfl _ _ rfl rfl (by first | with_reducible exact RowAt.new _ _ [] | exact hk _ _ _ (by first | with_reducible exact rf2 _ _ _ _ _ rfl | with_reducible exact rf3 _ _ _ _ _ rfl) (by decide)) (by omega) rfl (HS.out _ (by first | with_reducible exact hf | with_reducible exact fnew hf _)) HLS.out (one_strs _) (by omega) (by first | with_reducible exact hf | with_reducible exact fnew hf _) ?_; intro qs cs w2 hos hcs hds hf2 hk2; have hb2b : RowAt w2 (w.heap.size + 1) 34 [.slice none 0 0, .slice none 0 0] := hk2 _ _ _ (by first | with_reducible exact hb2 | with_reducible exact hb2.alloc _) (by decide); have hofb : Own w2 w.heap.size 96 qf (n.fibers.flatMap fibC) := Own.grown (by first | exact hof | exact hof.keep (fnew (frefl _) _)) hk2 (by decide); have hb1b : RowAt w2 w.heap.size 34 [.slice q nn c, .slice p nf d] := hk2 _ _ _ (by first | with_reducible exact hb1 | with_reducible exact hb1.alloc _) (by decide); have hSS2 : Fresh w w2 ∧ w2.cell? ⟨w.heap.size, 0, none⟩ = some (.slice q nn c) ∧ w2.cell? ⟨w.heap.size, 1, none⟩ = some (.slice p nf d) := ⟨hf2, (hk2 _ _ _ (by first | with_reducible exact hb1 | with_reducible exact hb1.alloc _) (by decide)).cell (i := 0) rfl, (hk2 _ _ _ (by first | with_reducible exact hb1 | with_reducible exact hb1.alloc _) (by decide)).cell (i := 1) rfl⟩; have f0 := hb2b.cell (i := 0) rfl; have f1 := hb2b.cell (i := 1) rfl; have z0 := hb2b.frozen 0; have z1 := hb2b.frozen 1) | (have _h := hk; refine step_app0D (some 10) rfl Tryz.underlying32 infoFib rfl (by decide) (by decide) w _ p nf _ (n.fibers.flatMap fibC) rfl _ _ rfl rfl (by first | with_reducible exact RowAt.new _ _ [] | exact hk _ _ _ (by first | with_reducible exact rf2 _ _ _ _ _ rfl | with_reducible exact rf3 _ _ _ _ _ rfl) (by decide)) (by omega) rfl (HP.out _ (by first | with_reducible exact hf | with_reducible exact fnew hf _)) HLF.out (one_fibs _) (by omega) (by first | with_reducible exact hf | with_reducible exact fnew hf _) ?_; intro qf cf w2 hof hcf hdf hf2 hk2; have hb2b : RowAt w2 (w.heap.size + 1) 34 [.slice none 0 0, .slice none 0 0] := hk2 _ _ _ (by first | with_reducible exact hb2 | with_reducible exact hb2.alloc _) (by decide); have hosb : Own w2 w.heap.size 9 qs (n.nodes.map Value.string) := Own.grown (by first | exact hos | exact hos.keep (fnew (frefl _) _)) hk2 (by decide); have hb1b : RowAt w2 w.heap.size 34 [.slice q nn c, .slice p nf d] := hk2 _ _ _ (by first | with_reducible exact hb1 | with_reducible exact hb1.alloc _) (by decide); have hSS2 : Fresh w w2 ∧ w2.cell? ⟨w.heap.size, 0, none⟩ = some (.slice q nn c) ∧ w2.cell? ⟨w.heap.size, 1, none⟩ = some (.slice p nf d) := ⟨hf2, (hk2 _ _ _ (by first | with_reducible exact hb1 | with_reducible exact hb1.alloc _) (by decide)).cell (i := 0) rfl, (hk2 _ _ _ (by first | with_reducible exact hb1 | with_reducible exact hb1.alloc _) (by decide)).cell (i := 1) rfl⟩; have f0 := hb2b.cell (i := 0) rfl; have f1 := hb2b.cell (i := 1) rfl; have z0 := hb2b.frozen 0; have z1 := hb2b.frozen 1) | (refine step_app0D (some 6) rfl Tryz.underlying22 infoStr rfl (by decide) (by decide) w _ q nn _ (n.nodes.map Value.string) rfl _ _ rfl rfl (by first | with_reducible exact rr2 _ _ _ _ rfl | with_reducible exact rf2 _ _ _ _ _ rfl | with_reducible exact rf3 _ _ _ _ _ rfl) (by omega) rfl (HS.out _ (by first | with_reducible exact fdrew (fnew (fnew (fnew (fnew (frefl _) _) _) _) _) | with_reducible exact fdrew (fnew (fnew (fnew (frefl _) _) _) _))) HLS.out (one_strs _) (by omega) (by first | with_reducible exact fdrew (fnew (fnew (fnew (fnew (frefl _) _) _) _) _) | with_reducible exact fdrew (fnew (fnew (fnew (frefl _) _) _) _)) ?_; intro qs cs w1 hos hcs hds hf hk; have hsz := hf.size; have hb2 : RowAt w1 (w.heap.size + 1) 34 [.slice none 0 0, .slice none 0 0] := hk _ _ _ (by first | with_reducible exact rr1 _ _ _ _ rfl | with_reducible exact rf1 _ _ _ _ _ rfl) (by decide); have hb1 : RowAt w1 w.heap.size 34 [.slice q nn c, .slice p nf d] := hk _ _ _ (by first | with_reducible exact rr0 _ _ _ _ rfl | with_reducible exact rf0 _ _ _ _ _ rfl) (by decide); have e0 := hb1.cell (i := 0) rfl; have e1 := hb1.cell (i := 1) rfl; have hSS : Fresh w w1 ∧ w1.cell? ⟨w.heap.size, 0, none⟩ = some (.slice q nn c) ∧ w1.cell? ⟨w.heap.size, 1, none⟩ = some (.slice p nf d) := ⟨hf, e0, e1⟩) | (refine step_app0D (some 10) rfl Tryz.underlying32 infoFib rfl (by decide) (by decide) w _ p nf _ (n.fibers.flatMap fibC) rfl _ _ rfl rfl (by first | with_reducible exact rr2 _ _ _ _ rfl | with_reducible exact rf2 _ _ _ _ _ rfl | with_reducible exact rf3 _ _ _ _ _ rfl) (by omega) rfl (HP.out _ (by first | with_reducible exact fdrew (fnew (fnew (fnew (fnew (frefl _) _) _) _) _) | with_reducible exact fdrew (fnew (fnew (fnew (frefl _) _) _) _))) HLF.out (one_fibs _) (by omega) (by first | with_reducible exact fdrew (fnew (fnew (fnew (fnew (frefl _) _) _) _) _) | with_reducible exact fdrew (fnew (fnew (fnew (frefl _) _) _) _)) ?_; intro qf cf w1 hof hcf hdf hf hk; have hsz := hf.size; have hb2 : RowAt w1 (w.heap.size + 1) 34 [.slice none 0 0, .slice none 0 0] := hk _ _ _ (by first | with_reducible exact rr1 _ _ _ _ rfl | with_reducible exact rf1 _ _ _ _ _ rfl) (by decide); have hb1 : RowAt w1 w.heap.size 34 [.slice q nn c, .slice p nf d] := hk _ _ _ (by first | with_reducible exact rr0 _ _ _ _ rfl | with_reducible exact rf0 _ _ _ _ _ rfl) (by decide); have e0 := hb1.cell (i := 0) rfl; have e1 := hb1.cell (i := 1) rfl; have hSS : Fresh w w1 ∧ w1.cell? ⟨w.heap.size, 0, none⟩ = some (.slice q nn c) ∧ w1.cell? ⟨w.heap.size, 1, none⟩ = some (.slice p nf d) := ⟨hf, e0, e1⟩))
    all_goals (go_wp2_with fail)
    all_goals go_meet
    all_goals first
      | exact ⟨qs, cs, qf, cf, (hb2b.set 0 _).set 1 _, (hosb.setO hb2b (by decide) _ _).setO (hb2b.set 0 _) (by decide) _ _, (hof.setO hb2b (by decide) _ _).setO (hb2b.set 0 _) (by decide) _ _, hcs, hds, fset (fset hf2 (by omega) _) (by omega) _⟩
      | exact ⟨qs, cs, qf, cf, (hb2b.set 0 _).set 1 _, (hos.setO hb2b (by decide) _ _).setO (hb2b.set 0 _) (by decide) _ _, (hofb.setO hb2b (by decide) _ _).setO (hb2b.set 0 _) (by decide) _ _, hcs, hds, fset (fset hf2 (by omega) _) (by omega) _⟩
  case rest =>
    obtain ⟨q', c', p', d', hr, ho, ho2, h1, h2, hf⟩ := hcut
    have k0 := hr.cell (i := 0) rfl
    have k1 := hr.cell (i := 1) rfl
    go_wp2
    refine bodyPost_ret (v := .agg #[.slice q' nn c', .slice p' nf d']) (by simp [results, Tryz.results67, go_sem, k0, k1]) rfl ?_
    exact ⟨q', c', p', d', rfl, ho, ho2, h1, h2, hf⟩
end Go.Proofs.YtjhaoonacjebpaaGreatDoor

/- Contracts: copies of routes and lights, the reference's side; an append of one element as a step of a region that draws. -/
namespace Go.Proofs.YtjhaoonacjebpaaGreatDoor
open Go.RowKit Go.PlainAid

theorem wpList_app0 {T E : TypeId} {z : Value} {size bytes : Nat} (hu : Tryz.prog.underlying T = some (.slice E)) (hinfo : (Tryz.prog.info? E).map (fun i => (i.zero, i.size, i.bytes)) = some (some z, size, bytes))
    (hzs : z.cells.size = size) (hsz : 0 < size) (hby : bytes ≤ 128) {ops : Array Oper} {rest : List Oper} {o : Oper} {a : Act} {w : World} {Q : Exit → Act → World → Prop} (w0 : World) (g : Nat) (p : Option Addr) (m c : Nat) (news : List Value)
    (hgd : o.guard = none) (s t : Operand) (ho : o.op = .call { callee := .builtin .append, args := #[s, t], argTypes := #[T, T] }) (hs : a.eval s = .slice (some ⟨g, 0, none⟩) 0 0) (hr : RowAt w g E []) (hg : w0.heap.size ≤ g)
    (hx : a.eval t = .slice p m c) (hc : Cells w p news) (hl : news.length = m * size) (hone : ∀ u ∈ news, u.oneCell' = true) (hm : m ≤ 1048576) (hf : Fresh w0 w)
    (h : ∀ q' c' w', Own w' w0.heap.size E q' news → m ≤ c' → c' ≤ 9223372036854775807 → Fresh w0 w' → (∀ g t cs, RowAt w g t cs → t ≠ E → RowAt w' g t cs) → wpList Tryz.prog ops Q rest (a.put o.dst (.slice q' m c')) w') :
    wpList Tryz.prog ops Q (o :: rest) a w :=
  wpList_plain hgd fun K hK => by
    have hw : Region.wanted o (yielded #[] a.tmps) = true := by simp [Region.wanted, hgd]
    have := step_app0 (ops := #[]) (K := K) (Q := Q) (F := True) hu hinfo hzs hsz hby w0 g p m c news hgd s t ho hs hr hg hx hc hl hone hm hf fun q' c' w' h1 h2 h3 h4 h5 => hK _ _ (h q' c' w' h1 h2 h3 h4 h5)
    rw [if_pos hw] at this
    exact this
/-- One more element, as a step of a region that draws its order. -/
theorem step_app_g {T E : TypeId} {z : Value} {size bytes : Nat} (hu : Tryz.prog.underlying T = some (.slice E)) (hinfo : (Tryz.prog.info? E).map (fun i => (i.zero, i.size, i.bytes)) = some (some z, size, bytes))
    (hzs : z.cells.size = size) (hsz : 0 < size) (hby : bytes ≤ 128) {ops : Array Oper} {o : Oper} {a : Act} {K : Act → World → Prop} {Q : Exit → Act → World → Prop} {F : Prop} (w0 w1 : World) (v : Value) (n : Nat) (xs news : List Value)
    (g0 : Nat) (hl : news.length = size) (hone : ∀ u ∈ news, u.oneCell' = true) (hgd : o.guard = none) (s t : Operand)
    (ho : o.op = .call { callee := .builtin .append, args := #[s, t], argTypes := #[T, T] }) (hs : a.eval s = v) (hown : w1.ownsRow w0.heap.size E size v n xs)
    (hx : a.eval t = .slice (some ⟨g0, 0, none⟩) 1 1) (hg0 : g0 = w1.heap.size) (hn : n ≤ 1048576) (hf : Fresh w0 w1)
    (h : ∀ v' w', w'.ownsRow w0.heap.size E size v' (n + 1) (xs ++ news) → Fresh w0 w' → (∀ g t cs, RowAt w1 g t cs → t ≠ E → RowAt w' g t cs) → K (a.put o.dst v') w') :
    if Region.wanted o (yielded ops a.tmps) = true then Oper.wp Tryz.prog o a (w1.alloc (.cells news.toArray E)) K Q else F := by
  have hw : Region.wanted o (yielded ops a.tmps) = true := by simp [Region.wanted, hgd]
  rw [if_pos hw]
  subst hg0
  obtain ⟨i0, hi, hz0, hz1, hz2⟩ := info_parts hinfo
  refine wp_append_own _ s t T ho w0.heap.size E i0 z size bytes hu hi hz0 hz1 hz2 hzs hsz v n xs hs (hown.alloc _) ⟨w1.heap.size, 0, none⟩ 1 1 news hx (by omega)
    (add_new w1 E news) hone (by unfold maxLen; omega) (Nat.le_trans (Nat.mul_le_mul (by omega : n + 1 ≤ 1048577) hby) (by omega)) (Nat.le_trans hf.size (by simp)) ?_
  intro v' w' hown' hgrow _
  exact h v' w' hown' (fgrown (fnew hf _) hgrow (own_block hown)) fun g t cs hr ht => row_grown hown hgrow hr ht
end Go.Proofs.YtjhaoonacjebpaaGreatDoor

/- Contracts: copies of lights and of plans, the program's side. -/
namespace Go.Proofs.YtjhaoonacjebpaaGreatDoor
open Go.RowKit Go.PlainAid

theorem kp5 {w w1 w2 : World} {b : Nat} {v0 v1 v2 v3 v4 : Value} (h : Fresh w w1 ∧ w1.cell? ⟨b, 0, none⟩ = some v0 ∧ w1.cell? ⟨b, 1, none⟩ = some v1 ∧ w1.cell? ⟨b, 2, none⟩ = some v2 ∧ w1.cell? ⟨b, 3, none⟩ = some v3 ∧ w1.cell? ⟨b, 4, none⟩ = some v4) (hb : Fresh w1 w2) :
    Fresh w w2 ∧ w2.cell? ⟨b, 0, none⟩ = some v0 ∧ w2.cell? ⟨b, 1, none⟩ = some v1 ∧ w2.cell? ⟨b, 2, none⟩ = some v2 ∧ w2.cell? ⟨b, 3, none⟩ = some v3 ∧ w2.cell? ⟨b, 4, none⟩ = some v4 :=
  ⟨fstep h.1 hb, fkeep hb h.2.1, fkeep hb h.2.2.1, fkeep hb h.2.2.2.1, fkeep hb h.2.2.2.2.1, fkeep hb h.2.2.2.2.2⟩
theorem s5 {w0 w : World} {b : Nat} {t : TypeId} {v0 v1 v2 v3 v4 : Value} (hf : Fresh w0 w) (h : RowAt w b t [v0, v1, v2, v3, v4]) : Fresh w0 w ∧ w.cell? ⟨b, 0, none⟩ = some v0 ∧ w.cell? ⟨b, 1, none⟩ = some v1 ∧ w.cell? ⟨b, 2, none⟩ = some v2 ∧ w.cell? ⟨b, 3, none⟩ = some v3 ∧ w.cell? ⟨b, 4, none⟩ = some v4 :=
  ⟨hf, h.cell (i := 0) rfl, h.cell (i := 1) rfl, h.cell (i := 2) rfl, h.cell (i := 3) rfl, h.cell (i := 4) rfl⟩
theorem DistL.snoc {l : List LL} (h : DistL l) {x : LL} (hx : ∀ y ∈ l, ∀ g o h o', x.r.q = some ⟨g, o, none⟩ → y.r.q = some ⟨h, o', none⟩ → g ≠ h) : DistL (l ++ [x]) := by
  intro i j a b hij ha hb g o h' o' e1 e2
  have at' : ∀ (k : Nat) (y : LL), (l ++ [x])[k]? = some y → (k < l.length ∧ l[k]? = some y) ∨ (k = l.length ∧ y = x) := by
    intro k y hk
    rw [List.getElem?_append] at hk
    split at hk
    · next hlt => exact Or.inl ⟨hlt, hk⟩
    · next hge =>
      rcases Nat.eq_zero_or_pos (k - l.length) with h0 | h0
      · rw [h0] at hk; simp at hk; exact Or.inr ⟨by omega, hk.symm⟩
      · rw [List.getElem?_eq_none (by simp; omega)] at hk; cases hk
  rcases at' i a ha with ⟨_, h1⟩ | ⟨hi, rfl⟩
  · rcases at' j b hb with ⟨_, h2⟩ | ⟨hj, rfl⟩
    · exact h i j a b hij h1 h2 g o h' o' e1 e2
    · exact (hx a (List.mem_of_getElem? h1) h' o' g o e2 e1).symm
  · rcases at' j b hb with ⟨_, h2⟩ | ⟨hj, rfl⟩
    · exact hx b (List.mem_of_getElem? h2) g o h' o' e1 e2
    · omega
theorem owns_setO {w : World} {base g : Nat} {E T : TypeId} {size n : Nat} {v u : Value} {xs cs : List Value} (h : w.ownsRow base E size v n xs) (hr : RowAt w g T cs) (hT : E ≠ T) (i : Nat) : (w.setCell ⟨g, i, none⟩ u).ownsRow base E size v n xs := by
  obtain ⟨h1, h2 | ⟨b, cap, cur, hv, hb, hh, h3⟩⟩ := h
  · exact ⟨h1, Or.inl h2⟩
  · refine ⟨h1, Or.inr ⟨b, cap, cur, hv, hb, ?_, h3⟩⟩
    have hne : b ≠ g := by
      intro e
      subst e
      unfold RowAt at hr
      rw [hh] at hr
      simp only [Option.some.injEq, Obj.cells.injEq] at hr
      exact hT hr.2.1
    rw [Below.heap_setCell _ _ _ _ hne]; exact hh
theorem owns_lt {w : World} {base : Nat} {E : TypeId} {size n : Nat} {v : Value} {xs : List Value} (h : w.ownsRow base E size v n xs) {g : Nat} (hv : v.ownBlock = some g) : g < w.heap.size := by
  rcases h.2 with ⟨rfl, _⟩ | ⟨b, cap, cur, rfl, _, hh, _⟩
  · cases hv
  · simp only [Value.ownBlock, Option.some.injEq] at hv
    subst hv
    rcases Nat.lt_or_ge b w.heap.size with h' | h'
    · exact h'
    · rw [Array.getElem?_eq_none h'] at hh; cases hh
/-- One more element, as a step of a region that draws its order: every row but the grown one stays. -/
theorem step_app_b {T E : TypeId} {z : Value} {size bytes : Nat} (hu : Tryz.prog.underlying T = some (.slice E)) (hinfo : (Tryz.prog.info? E).map (fun i => (i.zero, i.size, i.bytes)) = some (some z, size, bytes))
    (hzs : z.cells.size = size) (hsz : 0 < size) (hby : bytes ≤ 128) {ops : Array Oper} {o : Oper} {a : Act} {K : Act → World → Prop} {Q : Exit → Act → World → Prop} {F : Prop} (w0 w1 : World) (v : Value) (n : Nat) (xs news : List Value)
    (g0 : Nat) (hl : news.length = size) (hone : ∀ u ∈ news, u.oneCell' = true) (hgd : o.guard = none) (s t : Operand)
    (ho : o.op = .call { callee := .builtin .append, args := #[s, t], argTypes := #[T, T] }) (hs : a.eval s = v) (hown : w1.ownsRow w0.heap.size E size v n xs)
    (hx : a.eval t = .slice (some ⟨g0, 0, none⟩) 1 1) (hg0 : g0 = w1.heap.size) (hn : n ≤ 1048576) (hf : Fresh w0 w1)
    (h : ∀ v' w', w'.ownsRow w0.heap.size E size v' (n + 1) (xs ++ news) → Fresh w0 w' → (∀ g t cs, RowAt w1 g t cs → (t ≠ E ∨ v.ownBlock ≠ some g) → RowAt w' g t cs) → K (a.put o.dst v') w') :
    if Region.wanted o (yielded ops a.tmps) = true then Oper.wp Tryz.prog o a (w1.alloc (.cells news.toArray E)) K Q else F := by
  have hw : Region.wanted o (yielded ops a.tmps) = true := by simp [Region.wanted, hgd]
  rw [if_pos hw]
  subst hg0
  obtain ⟨i0, hi, hz0, hz1, hz2⟩ := info_parts hinfo
  refine wp_append_own _ s t T ho w0.heap.size E i0 z size bytes hu hi hz0 hz1 hz2 hzs hsz v n xs hs (hown.alloc _) ⟨w1.heap.size, 0, none⟩ 1 1 news hx (by omega)
    (add_new w1 E news) hone (by unfold maxLen; omega) (Nat.le_trans (Nat.mul_le_mul (by omega : n + 1 ≤ 1048577) hby) (by omega)) (Nat.le_trans hf.size (by simp)) ?_
  intro v' w' hown' hgrow _
  refine h v' w' hown' (fgrown (fnew hf _) hgrow (own_block hown)) fun g t cs hr ht => ?_
  rcases ht with ht | ht
  · exact row_grown hown hgrow hr ht
  · have hba := hr.alloc (.cells news.toArray E)
    unfold RowAt
    rw [hgrow.block g hba.lt (fun he => ht he.symm)]
    exact hba
theorem wpList_app_b {T E : TypeId} {z : Value} {size bytes : Nat} (hu : Tryz.prog.underlying T = some (.slice E)) (hinfo : (Tryz.prog.info? E).map (fun i => (i.zero, i.size, i.bytes)) = some (some z, size, bytes))
    (hzs : z.cells.size = size) (hsz : 0 < size) (hby : bytes ≤ 128) {ops : Array Oper} {rest : List Oper} {o : Oper} {a : Act} {Q : Exit → Act → World → Prop} (w0 w1 : World) (v : Value) (n : Nat) (xs news : List Value)
    (g0 : Nat) (hl : news.length = size) (hone : ∀ u ∈ news, u.oneCell' = true) (hgd : o.guard = none) (s t : Operand)
    (ho : o.op = .call { callee := .builtin .append, args := #[s, t], argTypes := #[T, T] }) (hs : a.eval s = v) (hown : w1.ownsRow w0.heap.size E size v n xs)
    (hx : a.eval t = .slice (some ⟨g0, 0, none⟩) 1 1) (hg0 : g0 = w1.heap.size) (hn : n ≤ 1048576) (hf : Fresh w0 w1)
    (h : ∀ v' w', w'.ownsRow w0.heap.size E size v' (n + 1) (xs ++ news) → Fresh w0 w' → (∀ g t cs, RowAt w1 g t cs → (t ≠ E ∨ v.ownBlock ≠ some g) → RowAt w' g t cs) → wpList Tryz.prog ops Q rest (a.put o.dst v') w') :
    wpList Tryz.prog ops Q (o :: rest) a (w1.alloc (.cells news.toArray E)) :=
  wpList_plain hgd fun K hK => by
    have hw : Region.wanted o (yielded #[] a.tmps) = true := by simp [Region.wanted, hgd]
    have := step_app_b (ops := #[]) (K := K) (Q := Q) (F := True) hu hinfo hzs hsz hby w0 w1 v n xs news g0 hl hone hgd s t ho hs hown hx hg0 hn hf fun v' w' h1 h2 h3 => hK _ _ (h v' w' h1 h2 h3)
    rw [if_pos hw] at this
    exact this
end Go.Proofs.YtjhaoonacjebpaaGreatDoor

/- A statement whose order is open: loads and a call that makes memory come first, in whatever order; then a tail in one forced order (no program in sight). -/
namespace Go.Proofs.YtjhaoonacjebpaaGreatDoor
open Go.RowKit

section
variable {P : Program} {Q : Exit → Act → World → Prop} {md : Region.Mode} {S : World → Prop}
/-- Every order of what comes ahead of operation n ends in L; S holds behind each. -/
def headH (P : Program) (md : Region.Mode) (ops : Array Oper) (Q : Exit → Act → World → Prop) (S : World → Prop) (n : Nat) (L : Array Bool → Act → World → Prop) : Nat → Array Bool → Act → World → Prop
  | 0, listed, a, w => L listed a w
  | f + 1, listed, a, w => Region.ready md ops listed ≠ [] ∧ ∀ i ∈ Region.ready md ops listed, i < n ∧ wpOp P ops Q i (fun a' w' => S w' ∧ headH P md ops Q S n L f (listed.setIfInBounds i true) a' w') a w
theorem any_of_headH {ops : Array Oper} {n g : Nat} {L : Array Bool → Act → World → Prop} (hL : ∀ listed a w, L listed a w → wpAny P md ops Q g listed a w) :
    ∀ (f : Nat) (listed : Array Bool) (a : Act) (w : World), headH P md ops Q S n L f listed a w → wpAny P md ops Q (f + g) listed a w := by
  intro f
  induction f with
  | zero => intro listed a w h; rw [Nat.zero_add]; exact hL _ _ _ h
  | succ f ih =>
    intro listed a w h
    have e : f + 1 + g = (f + g) + 1 := by omega
    rw [e]
    exact ⟨fun h0 => absurd h0 h.1, fun i hi => wpOp_mono (fun a' w' h' => ih _ a' w' h'.2) (h.2 i hi).2⟩
theorem headH_first {ops : Array Oper} {n i : Nat} {oi : Oper} {v : Value} {L : Array Bool → Act → World → Prop} (hi : ops[i]? = some oi) (hsel : ∀ (j : Nat) (o : Oper) cs b, ops[j]? = some o → o.op ≠ .select cs b)
    (hQ : ∀ c a w, Q (.panic c) (a.put oi.dst v) w → Q (.panic c) a w)
    (hs : Region.sinkB md ops n = true) (hc : Region.chainB md ops n = true) (hn : n < ops.size) (hin : i < n) (hdone : ∀ listed a w, L listed a w → ∀ j ∈ Region.ready md ops listed, n ≤ j) :
    ∀ (f : Nat) (listed : Array Bool) (a : Act) (w : World), HeadInv md ops n listed →
      (∀ j oj, ops[j]? = some oj → j ≠ i → listed.getD j true = false → (∀ e ∈ oj.after, Region.binds md e = true → e.on ≠ i) → oi.apart ops oj = true) →
      i ∈ Region.ready md ops listed → YieldsIf P ops S oi v a → S w →
      headH P md ops Q S n L f (listed.setIfInBounds i true) (a.put oi.dst v) w → headH P md ops Q S n L (f + 1) listed a w := by
  have early : ∀ (listed : Array Bool), HeadInv md ops n listed → i ∈ Region.ready md ops listed → ∀ j ∈ Region.ready md ops listed, j < n := by
    intro listed inv hr j hj
    rcases Nat.lt_or_ge j n with h | h
    · exact h
    · exact absurd hj (tail_waits hs hc hn inv _ i rfl hin (mem_ready.1 hr).1 j h)
  intro f
  induction f with
  | zero =>
    intro listed a w inv _ hr hy hS H
    refine ⟨fun h => (by rw [h] at hr; cases hr), fun j hj => ⟨early listed inv hr j hj, ?_⟩⟩
    by_cases hji : j = i
    · subst hji; exact hy.wpOp hi hS ⟨hS, H⟩
    · have h1 := hdone _ _ _ H j (ready_mono hj hji)
      have h2 := early listed inv hr j hj
      omega
  | succ f ih =>
    intro listed a w inv hfree hr hy hS H
    refine ⟨fun h => (by rw [h] at hr; cases hr), fun j hj => ⟨early listed inv hr j hj, ?_⟩⟩
    by_cases hji : j = i
    · subst hji; exact hy.wpOp hi hS ⟨hS, H⟩
    · have h1 := (H.2 j (ready_mono hj hji)).2
      obtain ⟨hjun, oj, hoj, hall⟩ := mem_ready.1 hj
      have hnot : ∀ e ∈ oj.after, Region.binds md e = true → e.on ≠ i := fun e he hb heq => by
        have h3 := hall e he hb
        rw [heq, getD_both (mem_ready.1 hr).1] at h3
        cases h3
      have h2 := wpOp_putIf hoj (hfree j oj hoj hji hjun hnot) (fun cs b => hsel i oi cs b hi) (fun cs b => hsel j oj cs b hoj) hQ hy h1
      refine wpOp_mono (fun a' w' h3 => ⟨h3.2.1, ih (listed.setIfInBounds j true) a' w' (inv.set hj (early listed inv hr j hj)) (fun k ok hk hki hun hno => ?_) (ready_mono hr (Ne.symm hji)) h3.1 h3.2.1 ?_⟩) h2
      · refine hfree k ok hk hki ?_ hno
        by_cases hjk : j = k
        · subst hjk; exact hjun
        · rw [getD_set_ne true hjk] at hun; exact hun
      · rw [Array.setIfInBounds_comm _ _ hji]
        exact h3.2.2
def tailOk (md : Region.Mode) (ops : Array Oper) (n : Nat) : Bool := Region.noSelect ops && decide (n < ops.size) && Region.sinkB md ops n && Region.chainB md ops n
def HI (P : Program) (md : Region.Mode) (l : List Oper) (Q : Exit → Act → World → Prop) (S : World → Prop) (n f : Nat) (listed : Array Bool) (a : Act) (w : World) : Prop :=
  HeadInv md l.toArray n listed → headH P md l.toArray Q S n (fun ls a' w' => Region.seqB md l.toArray (l.toArray.size - n) n ls = true ∧ wpList P l.toArray Q (l.drop n) a' w') f listed a w
/-- Take number i first. -/
theorem hd_take {l : List Oper} {n f i : Nat} {oi : Oper} {v : Value} {listed : Array Bool} {a : Act} {w : World} (hi : l.toArray[i]? = some oi) (hT : tailOk md l.toArray n = true) (hin : decide (i < n) = true) (hf : Region.free md l.toArray listed i = true) (hr : (Region.ready md l.toArray listed).contains i = true)
    (hQ : ∀ c a w, Q (.panic c) (a.put oi.dst v) w → Q (.panic c) a w) (hS : S w) (hy : YieldsIf P l.toArray S oi v a) (h : HI P md l Q S n f (listed.setIfInBounds i true) (a.put oi.dst v) w) : HI P md l Q S n (f + 1) listed a w := by
  intro inv
  simp only [tailOk, Bool.and_eq_true, decide_eq_true_eq] at hT
  obtain ⟨⟨⟨h1, h2⟩, h3⟩, h4⟩ := hT
  have hr' : i ∈ Region.ready md l.toArray listed := by simpa using hr
  have hin' : i < n := by simpa using hin
  exact headH_first hi (Region.noSelect_spec h1) hQ h3 h4 h2 hin' (fun _ _ _ hL => seqB_ready hL.1) f listed a w inv (Region.free_spec hi hf) hr' hy hS (h (inv.set hr' hin'))
theorem PU : (∀ (t : Array Value) (d : List Deferred) (k : Nat) (v : Value), Act.put ⟨t, d⟩ (some k) v = ⟨t.setIfInBounds k v, d⟩) ∧ (∀ (a : Act) (v : Value), Act.put a none v = a) ∧ (∀ (l : List Oper) (i : Nat) (h : i < l.toArray.size), l.toArray[i]'h = l[i]'(by simpa using h)) ∧ (∀ (x : Oper) (l : List Oper) (h : 0 < (x :: l).length), (x :: l)[0]'h = x) ∧ (∀ (x : Oper) (l : List Oper) (i : Nat) (h : i + 1 < (x :: l).length), (x :: l)[i + 1]'h = l[i]'(by simpa using h)) ∧ (∀ (l : List Value) (k : Nat) (v : Value), l.toArray.setIfInBounds k v = (l.set k v).toArray) ∧ (∀ (x v : Value) (l : List Value), (x :: l).set 0 v = v :: l) ∧ (∀ (x v : Value) (l : List Value) (k : Nat), (x :: l).set (k + 1) v = x :: l.set k v) :=
  ⟨fun _ _ _ _ => rfl, fun _ _ => rfl, fun _ _ _ => List.getElem_toArray _, fun _ _ _ => rfl, fun _ _ _ _ => rfl, fun _ _ _ => List.setIfInBounds_toArray _ _ _, fun _ _ _ => rfl, fun _ _ _ _ => rfl⟩
/-- As hd_take, for one that only reads; the checks are made on the spot. -/
theorem hd_tk {l : List Oper} {n f i : Nat} {oi : Oper} {v : Value} {listed : Array Bool} {a : Act} {w : World} (hi : l.toArray[i]? = some oi) (hw : ∀ w, S w → (execOp a.eval oi).run P w = .ok (.value v) w) (h : HI P md l Q S n f (listed.setIfInBounds i true) (a.put oi.dst v) w)
    (hT : tailOk md l.toArray n = true := by kernel_rfl) (hin : decide (i < n) = true := by kernel_rfl) (hf : Region.free md l.toArray listed i = true := by kernel_rfl) (hr : (Region.ready md l.toArray listed).contains i = true := by kernel_rfl)
    (hQ : ∀ c a w, Q (.panic c) (a.put oi.dst v) w → Q (.panic c) a w := by exact fun _ _ _ h => h) (hS : S w := by assumption) (hwt : Region.wanted oi (yielded l.toArray a.tmps) = true := by rfl) : HI P md l Q S n (f + 1) listed a w :=
  hd_take hi hT hin hf hr hQ hS (Or.inl ⟨hwt, hw⟩) h
/-- The one that may come up. -/
theorem hd_one {l : List Oper} {n f i : Nat} {o : Oper} {listed : Array Bool} {a : Act} {w : World} (hi : l.toArray[i]? = some o) (hin : decide (i < n) = true) (hr : Region.ready md l.toArray listed = [i])
    (h : ∀ K : Act → World → Prop, Shut (∀ a w, S w → (S w → HI P md l Q S n f (listed.setIfInBounds i true) a w) → K a w) → if Region.wanted o (yielded l.toArray a.tmps) = true then Oper.wp P o a w K Q else K (a.put o.dst undef) w) : HI P md l Q S n (f + 1) listed a w := by
  intro inv
  have hin' : i < n := by simpa using hin
  refine ⟨by rw [hr]; simp, fun j hj => ?_⟩
  have hj' := hj
  rw [hr] at hj
  have : j = i := by simpa using hj
  subst this
  exact ⟨hin', wpOp_step hi fun K hK => h K fun a w hS hW => hK a w ⟨hS, hW hS (inv.set hj' hin')⟩⟩
/-- Those that may come up, one by one. -/
def AllH (P : Program) (md : Region.Mode) (l : List Oper) (Q : Exit → Act → World → Prop) (S : World → Prop) (n f : Nat) (listed : Array Bool) (a : Act) (w : World) (rs : List Nat) : Prop :=
  ∀ i ∈ rs, i < n ∧ wpOp P l.toArray Q i (fun a' w' => S w' ∧ HI P md l Q S n f (listed.setIfInBounds i true) a' w') a w
theorem hd_nil {l : List Oper} {n f : Nat} {listed : Array Bool} {a : Act} {w : World} : AllH P md l Q S n f listed a w [] := fun _ h => by cases h
theorem hd_cons {l : List Oper} {n f i : Nat} {o : Oper} {rs : List Nat} {listed : Array Bool} {a : Act} {w : World} (hi : l.toArray[i]? = some o) (hin : decide (i < n) = true)
    (h : ∀ K : Act → World → Prop, Shut (∀ a w, S w → (S w → HI P md l Q S n f (listed.setIfInBounds i true) a w) → K a w) → if Region.wanted o (yielded l.toArray a.tmps) = true then Oper.wp P o a w K Q else K (a.put o.dst undef) w)
    (hs : AllH P md l Q S n f listed a w rs) : AllH P md l Q S n f listed a w (i :: rs) := fun j hj => by
  rcases List.mem_cons.1 hj with rfl | hj
  · exact ⟨by simpa using hin, wpOp_step hi fun K hK => h K fun a w hS hW => hK a w ⟨hS, hW hS⟩⟩
  · exact hs j hj
theorem hd_ready {l : List Oper} {n f : Nat} {rs : List Nat} {listed : Array Bool} {a : Act} {w : World} (hr : Region.ready md l.toArray listed = rs) (hne : rs ≠ []) (h : AllH P md l Q S n f listed a w rs) : HI P md l Q S n (f + 1) listed a w := by
  intro inv
  refine ⟨by rw [hr]; exact hne, fun j hj => ?_⟩
  have hj' := hj
  rw [hr] at hj
  obtain ⟨h1, h2⟩ := h j hj
  exact ⟨h1, wpOp_mono (fun a' w' h3 => ⟨h3.1, h3.2 (inv.set hj' h1)⟩) h2⟩
theorem hd_done {l : List Oper} {n : Nat} {listed : Array Bool} {a : Act} {w : World} (hq : Region.seqB md l.toArray (l.toArray.size - n) n listed = true) (h : wpList P l.toArray Q (l.drop n) a w) : HI P md l Q S n 0 listed a w := fun _ => ⟨hq, h⟩
theorem hd_start {id n : Nat} {l : List Oper} {a : Act} {w : World} (hm : P.follows .mixedOrders = true) (hT : tailOk .any l.toArray n = true) (hS : S w.drew)
    (h : S w.drew → HI P .any l Q S n n (Array.replicate l.toArray.size false) a w.drew) : (Code.region id l.toArray true).wp P Q a w := by
  have hT' := hT
  simp only [tailOk, Bool.and_eq_true, decide_eq_true_eq] at hT'
  obtain ⟨⟨⟨_, hn⟩, _⟩, _⟩ := hT'
  have hn' : n < l.length := by simpa using hn
  have hdl : (l.drop n).length = l.toArray.size - n := by simp
  have inv0 : HeadInv .any l.toArray n (Array.replicate l.toArray.size false) :=
    ⟨by simp, fun j oj _ hl => (by rw [getD_replicate_false] at hl; cases hl), fun t _ ht => getD_in (by simpa using ht) (getD_replicate_false _ _)⟩
  refine wp_region_any hm ?_
  have := any_of_headH (Q := Q) (g := l.toArray.size - n) (fun listed a' w' hL => by
    have := wpAny_of_seq (md := .any) (Q' := Q) (l.drop n) n listed a' w' (fun j => by simp [List.getElem?_drop]) (by rw [hdl]; exact hL.1) hL.2
    rwa [hdl] at this) _ _ _ _ (h hS inv0)
  rw [show n + (l.toArray.size - n) = l.toArray.size by omega] at this
  exact this
end
end Go.Proofs.YtjhaoonacjebpaaGreatDoor

/- Contracts: a copy of a plan, the program's side. -/
namespace Go.Proofs.YtjhaoonacjebpaaGreatDoor
open Go.RowKit Go.PlainAid

theorem llv_take {l : List LL} {k : Nat} {x : LL} (hx : l[k]? = some x) : (l.take (k + 1)).map LL.val = (l.take k).map LL.val ++ [x.val] := by
  rw [List.take_add_one, hx]; simp
theorem PlIn.parts {w : World} {v : Value} {P : PlanV} (h : PlIn w v P) : ∃ q c p d r e, ∃ l : List LL, v = .agg #[.slice q P.net.nodes.length c, .slice p P.net.fibers.length d, .slice r l.length e] ∧ NetIn w (.agg #[.slice q P.net.nodes.length c, .slice p P.net.fibers.length d]) P.net ∧ Lts w r l ∧ LtsSmall l ∧ P.lights = l.map LL.val ∧ l.length ≤ e ∧ e ≤ 9223372036854775807 := by
  obtain ⟨q, m, c, p, k, d, r, e, l, rfl, h2, h3⟩ := h
  obtain ⟨q', c', p', d', hv, hr⟩ := h2
  simp only [Value.agg.injEq] at hv
  have e1 := congrArg (fun a : Array Value => a[0]?) hv
  have e2 := congrArg (fun a : Array Value => a[1]?) hv
  simp at e1 e2
  obtain ⟨rfl, rfl, rfl⟩ := e1
  obtain ⟨rfl, rfl, rfl⟩ := e2
  exact ⟨_, _, _, _, r, e, l, rfl, ⟨_, _, _, _, rfl, hr⟩, h3⟩
theorem one_lt (x : LL) : ∀ u ∈ llC x, u.oneCell' = true := by
  intro u hu
  simp [llC] at hu
  rcases hu with rfl | rfl | rfl | rfl | rfl <;> rfl
/-- A plan of the call's own, the row of its lights with its room. -/
def PlOwnR (w : World) (base : Nat) (v : Value) (P : PlanV) : Prop := ∃ q c p d r e, ∃ l : List LL, v = .agg #[.slice q P.net.nodes.length c, .slice p P.net.fibers.length d, .slice r l.length e] ∧ Own w base 9 q (P.net.nodes.map Value.string) ∧ Own w base 96 p (P.net.fibers.flatMap fibC) ∧
  Own w base 58 r (l.flatMap llC) ∧ (∀ x ∈ l, Own w base 3 x.r.q (x.r.fibs.map iv)) ∧ DistL l ∧ P.lights = l.map LL.val ∧ P.net.nodes.length ≤ c ∧ c ≤ 9223372036854775807 ∧ l.length ≤ e ∧ e ≤ 9223372036854775807 ∧ w.ownsRow base 58 5 (.slice r l.length e) l.length (l.flatMap llC)
theorem PlOwnR.own {w : World} {base : Nat} {v : Value} {P : PlanV} (h : PlOwnR w base v P) : PlOwn w base v P := by
  obtain ⟨q, c, p, d, r, e, l, h1, h2, h3, h4, h5, h6, h7, h8, h9, h10, h11, _⟩ := h
  exact ⟨q, c, p, d, r, e, l, h1, h2, h3, h4, h5, h6, h7, h8, h9, h10, h11⟩
end Go.Proofs.YtjhaoonacjebpaaGreatDoor

/- Contracts: a copy of a plan, the reference's side. -/
namespace Go.Proofs.YtjhaoonacjebpaaGreatDoor
open Go.RowKit Go.PlainAid

theorem kp6 {w w1 w2 : World} {a a' b o : Nat} {v v0 v1 v2 v3 v4 : Value} (h : Fresh w w1 ∧ w1.cell? ⟨a, a', none⟩ = some v ∧ w1.cell? ⟨b, o, none⟩ = some v0 ∧ w1.cell? ⟨b, o + 1, none⟩ = some v1 ∧ w1.cell? ⟨b, o + 2, none⟩ = some v2 ∧ w1.cell? ⟨b, o + 3, none⟩ = some v3 ∧ w1.cell? ⟨b, o + 4, none⟩ = some v4) (hb : Fresh w1 w2) :
    Fresh w w2 ∧ w2.cell? ⟨a, a', none⟩ = some v ∧ w2.cell? ⟨b, o, none⟩ = some v0 ∧ w2.cell? ⟨b, o + 1, none⟩ = some v1 ∧ w2.cell? ⟨b, o + 2, none⟩ = some v2 ∧ w2.cell? ⟨b, o + 3, none⟩ = some v3 ∧ w2.cell? ⟨b, o + 4, none⟩ = some v4 :=
  ⟨fstep h.1 hb, fkeep hb h.2.1, fkeep hb h.2.2.1, fkeep hb h.2.2.2.1, fkeep hb h.2.2.2.2.1, fkeep hb h.2.2.2.2.2.1, fkeep hb h.2.2.2.2.2.2⟩
theorem s6 {w0 w : World} {a a' b o : Nat} {v v0 v1 v2 v3 v4 : Value} (hf : Fresh w0 w) (h : w.cell? ⟨a, a', none⟩ = some v) (c0 : w0.cell? ⟨b, o, none⟩ = some v0) (c1 : w0.cell? ⟨b, o + 1, none⟩ = some v1) (c2 : w0.cell? ⟨b, o + 2, none⟩ = some v2) (c3 : w0.cell? ⟨b, o + 3, none⟩ = some v3) (c4 : w0.cell? ⟨b, o + 4, none⟩ = some v4) :
    Fresh w0 w ∧ w.cell? ⟨a, a', none⟩ = some v ∧ w.cell? ⟨b, o, none⟩ = some v0 ∧ w.cell? ⟨b, o + 1, none⟩ = some v1 ∧ w.cell? ⟨b, o + 2, none⟩ = some v2 ∧ w.cell? ⟨b, o + 3, none⟩ = some v3 ∧ w.cell? ⟨b, o + 4, none⟩ = some v4 :=
  ⟨hf, h, fkeep hf c0, fkeep hf c1, fkeep hf c2, fkeep hf c3, fkeep hf c4⟩
end Go.Proofs.YtjhaoonacjebpaaGreatDoor

