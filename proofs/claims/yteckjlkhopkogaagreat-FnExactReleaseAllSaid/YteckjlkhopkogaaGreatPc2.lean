/- Contracts: copies of networks, both sides. -/
import Derived.Test.YteckjlkhopkogaaGreatPc
import Derived.Deep.RegionHeld3
namespace Go.Proofs.YteckjlkhopkogaaGreat
open Go.RowKit Go.PlainAid

theorem rf1 (w : World) (a b c d : Obj) {t : TypeId} {xs : List Value} (h : b = .cells xs.toArray t) : RowAt ((((w.alloc a).alloc b).alloc c).alloc d).drew (w.heap.size + 1) t xs := by
  subst h
  have := RowAt.new (w.alloc a) t xs
  rw [show (w.alloc a).heap.size = w.heap.size + 1 by simp] at this
  exact ((this.alloc _).alloc _).keep (fdrew (frefl _))
theorem rf0 (w : World) (a b c d : Obj) {t : TypeId} {xs : List Value} (h : a = .cells xs.toArray t) : RowAt ((((w.alloc a).alloc b).alloc c).alloc d).drew w.heap.size t xs := by
  subst h; exact ((((RowAt.new w t xs).alloc _).alloc _).alloc _).keep (fdrew (frefl _))
theorem rf2 (w : World) (a b c d : Obj) {t : TypeId} {xs : List Value} (h : c = .cells xs.toArray t) : RowAt ((((w.alloc a).alloc b).alloc c).alloc d).drew (w.heap.size + 1 + 1) t xs := by
  subst h
  have := RowAt.new ((w.alloc a).alloc b) t xs
  rw [show ((w.alloc a).alloc b).heap.size = w.heap.size + 1 + 1 by simp] at this
  exact (this.alloc _).keep (fdrew (frefl _))
theorem rf3 (w : World) (a b c d : Obj) {t : TypeId} {xs : List Value} (h : d = .cells xs.toArray t) : RowAt ((((w.alloc a).alloc b).alloc c).alloc d).drew (w.heap.size + 1 + 1 + 1) t xs := by
  subst h
  have := RowAt.new (((w.alloc a).alloc b).alloc c) t xs
  rw [show (((w.alloc a).alloc b).alloc c).heap.size = w.heap.size + 1 + 1 + 1 by simp] at this
  exact this.keep (fdrew (frefl _))
theorem one_strs (l : List ByteArray) : ∀ u ∈ l.map Value.string, u.oneCell' = true := by
  intro u hu
  obtain ⟨x, _, rfl⟩ := List.mem_map.1 hu
  rfl
theorem one_fibs (l : List Fib) : ∀ u ∈ l.flatMap fibC, u.oneCell' = true := by
  intro u hu
  obtain ⟨x, _, hx⟩ := List.mem_flatMap.1 hu
  simp [fibC] at hx
  rcases hx with rfl | rfl | rfl | rfl <;> rfl
theorem kp2 {w w1 w2 : World} {b0 o0 b1 o1 : Nat} {v0 v1 : Value} (h : Fresh w w1 ∧ w1.cell? ⟨b0, o0, none⟩ = some v0 ∧ w1.cell? ⟨b1, o1, none⟩ = some v1) (hb : Fresh w1 w2) : Fresh w w2 ∧ w2.cell? ⟨b0, o0, none⟩ = some v0 ∧ w2.cell? ⟨b1, o1, none⟩ = some v1 :=
  ⟨fstep h.1 hb, fkeep hb h.2.1, fkeep hb h.2.2⟩
theorem step_app0D {T E : TypeId} {z : Value} {size bytes : Nat} {ops : Array Oper} {o : Oper} {a : Act} {w : World} {K : Act → World → Prop} {Q : Exit → Act → World → Prop} {F : Prop} (dd : Option Nat) (_hd : o.dst = dd) (hu : Tryz.prog.underlying T = some (.slice E)) (hinfo : (Tryz.prog.info? E).map (fun i => (i.zero, i.size, i.bytes)) = some (some z, size, bytes))
    (hzs : z.cells.size = size) (hsz : 0 < size) (hby : bytes ≤ 128) (w0 : World) (g : Nat) (p : Option Addr) (m c : Nat) (news : List Value)
    (hgd : o.guard = none) (s t : Operand) (ho : o.op = .call { callee := .builtin .append, args := #[s, t], argTypes := #[T, T] }) (hs : a.eval s = .slice (some ⟨g, 0, none⟩) 0 0) (hr : RowAt w g E []) (hg : w0.heap.size ≤ g)
    (hx : a.eval t = .slice p m c) (hc : Cells w p news) (hl : news.length = m * size) (hone : ∀ u ∈ news, u.oneCell' = true) (hm : m ≤ 1048576) (hf : Fresh w0 w)
    (h : ∀ q' c' w', Own w' w0.heap.size E q' news → m ≤ c' → c' ≤ 9223372036854775807 → Fresh w0 w' → (∀ g t cs, RowAt w g t cs → t ≠ E → RowAt w' g t cs) → K (a.put o.dst (.slice q' m c')) w') :
    if Region.wanted o (yielded ops a.tmps) = true then Oper.wp Tryz.prog o a w K Q else F := step_app0 hu hinfo hzs hsz hby w0 g p m c news hgd s t ho hs hr hg hx hc hl hone hm hf h
def OutNetC (w : World) (n : Net) (e : Ending) (w' : World) : Prop := ∃ q c p d, e = .returned (.agg #[.slice q n.nodes.length c, .slice p n.fibers.length d]) ∧ Own w' w.heap.size 9 q (n.nodes.map Value.string) ∧ Own w' w.heap.size 163 p (n.fibers.flatMap fibC) ∧ n.nodes.length ≤ c ∧ c ≤ 9223372036854775807 ∧ Fresh w w'
set_option maxHeartbeats 8000000 in
set_option maxRecDepth 20000 in
theorem copyNetwork_any (v : Value) (n : Net) (w : World) (h : NetIn w v n) : Calls Tryz.prog 95 #[v] w (OutNetC w n) := by
  obtain ⟨q, c, p, d, rfl, hq, hp, hnn, hnf, _⟩ := h
  have HS : Hid (∀ W, Fresh w W → Cells W q (n.nodes.map Value.string)) := fun W hW => Cells.keep hq hW
  have HP : Hid (∀ W, Fresh w W → Cells W p (n.fibers.flatMap fibC)) := fun W hW => Cells.keep hp hW
  obtain ⟨nn, hn1⟩ : ∃ k, k = n.nodes.length := ⟨_, rfl⟩
  obtain ⟨nf, hn2⟩ : ∃ k, k = n.fibers.length := ⟨_, rfl⟩
  have hls : (n.nodes.map Value.string).length = nn * 1 := by simp [hn1]
  have hlf : (n.fibers.flatMap fibC).length = nf * 4 := by rw [flat_len fibC 4 (fun _ => rfl), hn2]
  unfold OutNetC
  rw [← hn1, ← hn2]
  rw [← hn1] at hnn
  rw [← hn2] at hnf
  have HLS := Lib.hid hls
  have HLF := Lib.hid hlf
  clear hq hp hn1 hn2 hls hlf
  go_enter Tryz.func95, Tryz.ntmps95
  go_upto_region 1 with fail
  go_cut [] (fun wx => ∃ q' c' p' d', RowAt wx (w.heap.size + 1) 35 [.slice q' nn c', .slice p' nf d'] ∧ Own wx w.heap.size 9 q' (n.nodes.map Value.string) ∧ Own wx w.heap.size 163 p' (n.fibers.flatMap fibC) ∧ nn ≤ c' ∧ c' ≤ 9223372036854775807 ∧ Fresh w wx)
  case first =>
    have HSS0 : Fresh w ((w.alloc (.cells #[.slice q nn c, .slice p nf d] 35)).alloc (.cells #[.slice none 0 0, .slice none 0 0] 35)) ∧ ((w.alloc (.cells #[.slice q nn c, .slice p nf d] 35)).alloc (.cells #[.slice none 0 0, .slice none 0 0] 35)).cell? ⟨w.heap.size, 0, none⟩ = some (.slice q nn c) ∧ ((w.alloc (.cells #[.slice q nn c, .slice p nf d] 35)).alloc (.cells #[.slice none 0 0, .slice none 0 0] 35)).cell? ⟨w.heap.size, 1, none⟩ = some (.slice p nf d) :=
      ⟨fnew (fnew (frefl _) _) _, ((RowAt.new w 35 [.slice q nn c, .slice p nf d]).alloc _).cell (i := 0) rfl, ((RowAt.new w 35 [.slice q nn c, .slice p nf d]).alloc _).cell (i := 1) rfl⟩
    go_region_held3 (fun w' => Fresh w w' ∧ w'.cell? ⟨w.heap.size, 0, none⟩ = some (.slice q nn c) ∧ w'.cell? ⟨w.heap.size, 1, none⟩ = some (.slice p nf d))
      (first | with_reducible assumption | exact ⟨fset (fset hf2 (by omega) _) (by omega) _, ((hb1b.setOther (by omega) _).setOther (by omega) _).cell (i := 0) rfl, ((hb1b.setOther (by omega) _).setOther (by omega) _).cell (i := 1) rfl⟩ | with_reducible exact kp2 (by assumption) (fdrew (frefl _)) | with_reducible exact kp2 (by assumption) (frefl _) | with_reducible exact kp2 (by assumption) (fnew (frefl _) _) | with_reducible exact kp2 (by assumption) (fdrew (fnew (frefl _) _)) | with_reducible exact kp2 (by assumption) (fdrew (fnew (fnew (frefl _) _) _)) | with_reducible exact kp2 (by assumption) (fnew (fnew (frefl _) _) _))
      (first | (have _h := hk; refine step_app0D (some 6) rfl Tryz.underlying22 infoStr rfl (by decide) (by decide) w _ q nn _ (n.nodes.map Value.string) rfl _ _ rfl rfl (by first | with_reducible exact RowAt.new _ _ [] | exact hk _ _ _ (by first | with_reducible exact rf2 _ _ _ _ _ rfl | with_reducible exact rf3 _ _ _ _ _ rfl) (by decide)) (by omega) rfl (HS.out _ (by first | with_reducible exact hf | with_reducible exact fnew hf _)) HLS.out (one_strs _) (by omega) (by first | with_reducible exact hf | with_reducible exact fnew hf _) ?_; intro qs cs w2 hos hcs hds hf2 hk2; have hb2b : RowAt w2 (w.heap.size + 1) 35 [.slice none 0 0, .slice none 0 0] := hk2 _ _ _ (by first | with_reducible exact hb2 | with_reducible exact hb2.alloc _) (by decide); have hofb : Own w2 w.heap.size 163 qf (n.fibers.flatMap fibC) := Own.grown (by first | exact hof | exact hof.keep (fnew (frefl _) _)) hk2 (by decide); have hb1b : RowAt w2 w.heap.size 35 [.slice q nn c, .slice p nf d] := hk2 _ _ _ (by first | with_reducible exact hb1 | with_reducible exact hb1.alloc _) (by decide); have hSS2 : Fresh w w2 ∧ w2.cell? ⟨w.heap.size, 0, none⟩ = some (.slice q nn c) ∧ w2.cell? ⟨w.heap.size, 1, none⟩ = some (.slice p nf d) := ⟨hf2, (hk2 _ _ _ (by first | with_reducible exact hb1 | with_reducible exact hb1.alloc _) (by decide)).cell (i := 0) rfl, (hk2 _ _ _ (by first | with_reducible exact hb1 | with_reducible exact hb1.alloc _) (by decide)).cell (i := 1) rfl⟩; have f0 := hb2b.cell (i := 0) rfl; have f1 := hb2b.cell (i := 1) rfl; have z0 := hb2b.frozen 0; have z1 := hb2b.frozen 1) | (have _h := hk; refine step_app0D (some 10) rfl Tryz.underlying33 infoFib rfl (by decide) (by decide) w _ p nf _ (n.fibers.flatMap fibC) rfl _ _ rfl rfl (by first | with_reducible exact RowAt.new _ _ [] | exact hk _ _ _ (by first | with_reducible exact rf2 _ _ _ _ _ rfl | with_reducible exact rf3 _ _ _ _ _ rfl) (by decide)) (by omega) rfl (HP.out _ (by first | with_reducible exact hf | with_reducible exact fnew hf _)) HLF.out (one_fibs _) (by omega) (by first | with_reducible exact hf | with_reducible exact fnew hf _) ?_; intro qf cf w2 hof hcf hdf hf2 hk2; have hb2b : RowAt w2 (w.heap.size + 1) 35 [.slice none 0 0, .slice none 0 0] := hk2 _ _ _ (by first | with_reducible exact hb2 | with_reducible exact hb2.alloc _) (by decide); have hosb : Own w2 w.heap.size 9 qs (n.nodes.map Value.string) := Own.grown (by first | exact hos | exact hos.keep (fnew (frefl _) _)) hk2 (by decide); have hb1b : RowAt w2 w.heap.size 35 [.slice q nn c, .slice p nf d] := hk2 _ _ _ (by first | with_reducible exact hb1 | with_reducible exact hb1.alloc _) (by decide); have hSS2 : Fresh w w2 ∧ w2.cell? ⟨w.heap.size, 0, none⟩ = some (.slice q nn c) ∧ w2.cell? ⟨w.heap.size, 1, none⟩ = some (.slice p nf d) := ⟨hf2, (hk2 _ _ _ (by first | with_reducible exact hb1 | with_reducible exact hb1.alloc _) (by decide)).cell (i := 0) rfl, (hk2 _ _ _ (by first | with_reducible exact hb1 | with_reducible exact hb1.alloc _) (by decide)).cell (i := 1) rfl⟩; have f0 := hb2b.cell (i := 0) rfl; have f1 := hb2b.cell (i := 1) rfl; have z0 := hb2b.frozen 0; have z1 := hb2b.frozen 1) | (refine step_app0D (some 6) rfl Tryz.underlying22 infoStr rfl (by decide) (by decide) w _ q nn _ (n.nodes.map Value.string) rfl _ _ rfl rfl (by first | with_reducible exact rr2 _ _ _ _ rfl | with_reducible exact rf2 _ _ _ _ _ rfl | with_reducible exact rf3 _ _ _ _ _ rfl) (by omega) rfl (HS.out _ (by first | with_reducible exact fdrew (fnew (fnew (fnew (fnew (frefl _) _) _) _) _) | with_reducible exact fdrew (fnew (fnew (fnew (frefl _) _) _) _))) HLS.out (one_strs _) (by omega) (by first | with_reducible exact fdrew (fnew (fnew (fnew (fnew (frefl _) _) _) _) _) | with_reducible exact fdrew (fnew (fnew (fnew (frefl _) _) _) _)) ?_; intro qs cs w1 hos hcs hds hf hk; have hsz := hf.size; have hb2 : RowAt w1 (w.heap.size + 1) 35 [.slice none 0 0, .slice none 0 0] := hk _ _ _ (by first | with_reducible exact rr1 _ _ _ _ rfl | with_reducible exact rf1 _ _ _ _ _ rfl) (by decide); have hb1 : RowAt w1 w.heap.size 35 [.slice q nn c, .slice p nf d] := hk _ _ _ (by first | with_reducible exact rr0 _ _ _ _ rfl | with_reducible exact rf0 _ _ _ _ _ rfl) (by decide); have e0 := hb1.cell (i := 0) rfl; have e1 := hb1.cell (i := 1) rfl; have hSS : Fresh w w1 ∧ w1.cell? ⟨w.heap.size, 0, none⟩ = some (.slice q nn c) ∧ w1.cell? ⟨w.heap.size, 1, none⟩ = some (.slice p nf d) := ⟨hf, e0, e1⟩) | (refine step_app0D (some 10) rfl Tryz.underlying33 infoFib rfl (by decide) (by decide) w _ p nf _ (n.fibers.flatMap fibC) rfl _ _ rfl rfl (by first | with_reducible exact rr2 _ _ _ _ rfl | with_reducible exact rf2 _ _ _ _ _ rfl | with_reducible exact rf3 _ _ _ _ _ rfl) (by omega) rfl (HP.out _ (by first | with_reducible exact fdrew (fnew (fnew (fnew (fnew (frefl _) _) _) _) _) | with_reducible exact fdrew (fnew (fnew (fnew (frefl _) _) _) _))) HLF.out (one_fibs _) (by omega) (by first | with_reducible exact fdrew (fnew (fnew (fnew (fnew (frefl _) _) _) _) _) | with_reducible exact fdrew (fnew (fnew (fnew (frefl _) _) _) _)) ?_; intro qf cf w1 hof hcf hdf hf hk; have hsz := hf.size; have hb2 : RowAt w1 (w.heap.size + 1) 35 [.slice none 0 0, .slice none 0 0] := hk _ _ _ (by first | with_reducible exact rr1 _ _ _ _ rfl | with_reducible exact rf1 _ _ _ _ _ rfl) (by decide); have hb1 : RowAt w1 w.heap.size 35 [.slice q nn c, .slice p nf d] := hk _ _ _ (by first | with_reducible exact rr0 _ _ _ _ rfl | with_reducible exact rf0 _ _ _ _ _ rfl) (by decide); have e0 := hb1.cell (i := 0) rfl; have e1 := hb1.cell (i := 1) rfl; have hSS : Fresh w w1 ∧ w1.cell? ⟨w.heap.size, 0, none⟩ = some (.slice q nn c) ∧ w1.cell? ⟨w.heap.size, 1, none⟩ = some (.slice p nf d) := ⟨hf, e0, e1⟩))
    all_goals (go_wp2_with fail)
    all_goals go_meet
    all_goals first
      | exact ⟨qs, cs, qf, cf, (hb2b.set 0 _).set 1 _, (hosb.setO hb2b (by decide) _ _).setO (hb2b.set 0 _) (by decide) _ _, (hof.setO hb2b (by decide) _ _).setO (hb2b.set 0 _) (by decide) _ _, hcs, hds, fset (fset hf2 (by omega) _) (by omega) _⟩
      | exact ⟨qs, cs, qf, cf, (hb2b.set 0 _).set 1 _, (hos.setO hb2b (by decide) _ _).setO (hb2b.set 0 _) (by decide) _ _, (hofb.setO hb2b (by decide) _ _).setO (hb2b.set 0 _) (by decide) _ _, hcs, hds, fset (fset hf2 (by omega) _) (by omega) _⟩
  case rest =>
    obtain ⟨q', c', p', d', hr, ho, ho2, h1, h2, hf⟩ := hcut
    have k0 := hr.cell (i := 0) rfl
    have k1 := hr.cell (i := 1) rfl
    go_wp2
    refine bodyPost_ret (v := .agg #[.slice q' nn c', .slice p' nf d']) (by simp [results, Tryz.results95, go_sem, k0, k1]) rfl ?_
    exact ⟨q', c', p', d', rfl, ho, ho2, h1, h2, hf⟩
set_option maxHeartbeats 8000000 in
set_option maxRecDepth 20000 in
theorem l2Own_any (v : Value) (n : Net) (w : World) (h : NetIn w v n) : Calls Tryz.prog 85 #[v] w (OutNetC w n) := by
  obtain ⟨q, c, p, d, rfl, hq, hp, hnn, hnf, _⟩ := h
  have HS : Hid (∀ W, Fresh w W → Cells W q (n.nodes.map Value.string)) := fun W hW => Cells.keep hq hW
  have HP : Hid (∀ W, Fresh w W → Cells W p (n.fibers.flatMap fibC)) := fun W hW => Cells.keep hp hW
  obtain ⟨nn, hn1⟩ : ∃ k, k = n.nodes.length := ⟨_, rfl⟩
  obtain ⟨nf, hn2⟩ : ∃ k, k = n.fibers.length := ⟨_, rfl⟩
  have hls : (n.nodes.map Value.string).length = nn * 1 := by simp [hn1]
  have hlf : (n.fibers.flatMap fibC).length = nf * 4 := by rw [flat_len fibC 4 (fun _ => rfl), hn2]
  unfold OutNetC
  rw [← hn1, ← hn2]
  rw [← hn1] at hnn
  rw [← hn2] at hnf
  have HLS := Lib.hid hls
  have HLF := Lib.hid hlf
  clear hq hp hn1 hn2 hls hlf
  go_enter Tryz.func85, Tryz.ntmps85
  go_upto_region 1 with fail
  go_cut [] (fun wx => ∃ q' c' p' d', RowAt wx (w.heap.size + 1) 35 [.slice q' nn c', .slice p' nf d'] ∧ Own wx w.heap.size 9 q' (n.nodes.map Value.string) ∧ Own wx w.heap.size 163 p' (n.fibers.flatMap fibC) ∧ nn ≤ c' ∧ c' ≤ 9223372036854775807 ∧ Fresh w wx)
  case first =>
    have HSS0 : Fresh w ((w.alloc (.cells #[.slice q nn c, .slice p nf d] 35)).alloc (.cells #[.slice none 0 0, .slice none 0 0] 35)) ∧ ((w.alloc (.cells #[.slice q nn c, .slice p nf d] 35)).alloc (.cells #[.slice none 0 0, .slice none 0 0] 35)).cell? ⟨w.heap.size, 0, none⟩ = some (.slice q nn c) ∧ ((w.alloc (.cells #[.slice q nn c, .slice p nf d] 35)).alloc (.cells #[.slice none 0 0, .slice none 0 0] 35)).cell? ⟨w.heap.size, 1, none⟩ = some (.slice p nf d) :=
      ⟨fnew (fnew (frefl _) _) _, ((RowAt.new w 35 [.slice q nn c, .slice p nf d]).alloc _).cell (i := 0) rfl, ((RowAt.new w 35 [.slice q nn c, .slice p nf d]).alloc _).cell (i := 1) rfl⟩
    go_region_held3 (fun w' => Fresh w w' ∧ w'.cell? ⟨w.heap.size, 0, none⟩ = some (.slice q nn c) ∧ w'.cell? ⟨w.heap.size, 1, none⟩ = some (.slice p nf d))
      (first | with_reducible assumption | exact ⟨fset (fset hf2 (by omega) _) (by omega) _, ((hb1b.setOther (by omega) _).setOther (by omega) _).cell (i := 0) rfl, ((hb1b.setOther (by omega) _).setOther (by omega) _).cell (i := 1) rfl⟩ | with_reducible exact kp2 (by assumption) (fdrew (frefl _)) | with_reducible exact kp2 (by assumption) (frefl _) | with_reducible exact kp2 (by assumption) (fnew (frefl _) _) | with_reducible exact kp2 (by assumption) (fdrew (fnew (frefl _) _)) | with_reducible exact kp2 (by assumption) (fdrew (fnew (fnew (frefl _) _) _)) | with_reducible exact kp2 (by assumption) (fnew (fnew (frefl _) _) _))
      (first | (have _h := hk; refine step_app0D (some 6) rfl Tryz.underlying22 infoStr rfl (by decide) (by decide) w _ q nn _ (n.nodes.map Value.string) rfl _ _ rfl rfl (by first | with_reducible exact RowAt.new _ _ [] | exact hk _ _ _ (by first | with_reducible exact rf2 _ _ _ _ _ rfl | with_reducible exact rf3 _ _ _ _ _ rfl) (by decide)) (by omega) rfl (HS.out _ (by first | with_reducible exact hf | with_reducible exact fnew hf _)) HLS.out (one_strs _) (by omega) (by first | with_reducible exact hf | with_reducible exact fnew hf _) ?_; intro qs cs w2 hos hcs hds hf2 hk2; have hb2b : RowAt w2 (w.heap.size + 1) 35 [.slice none 0 0, .slice none 0 0] := hk2 _ _ _ (by first | with_reducible exact hb2 | with_reducible exact hb2.alloc _) (by decide); have hofb : Own w2 w.heap.size 163 qf (n.fibers.flatMap fibC) := Own.grown (by first | exact hof | exact hof.keep (fnew (frefl _) _)) hk2 (by decide); have hb1b : RowAt w2 w.heap.size 35 [.slice q nn c, .slice p nf d] := hk2 _ _ _ (by first | with_reducible exact hb1 | with_reducible exact hb1.alloc _) (by decide); have hSS2 : Fresh w w2 ∧ w2.cell? ⟨w.heap.size, 0, none⟩ = some (.slice q nn c) ∧ w2.cell? ⟨w.heap.size, 1, none⟩ = some (.slice p nf d) := ⟨hf2, (hk2 _ _ _ (by first | with_reducible exact hb1 | with_reducible exact hb1.alloc _) (by decide)).cell (i := 0) rfl, (hk2 _ _ _ (by first | with_reducible exact hb1 | with_reducible exact hb1.alloc _) (by decide)).cell (i := 1) rfl⟩; have f0 := hb2b.cell (i := 0) rfl; have f1 := hb2b.cell (i := 1) rfl; have z0 := hb2b.frozen 0; have z1 := hb2b.frozen 1) | (have _h := hk; refine step_app0D (some 10) rfl Tryz.underlying33 infoFib rfl (by decide) (by decide) w _ p nf _ (n.fibers.flatMap fibC) rfl _ _ rfl rfl (by first | with_reducible exact RowAt.new _ _ [] | exact hk _ _ _ (by first | with_reducible exact rf2 _ _ _ _ _ rfl | with_reducible exact rf3 _ _ _ _ _ rfl) (by decide)) (by omega) rfl (HP.out _ (by first | with_reducible exact hf | with_reducible exact fnew hf _)) HLF.out (one_fibs _) (by omega) (by first | with_reducible exact hf | with_reducible exact fnew hf _) ?_; intro qf cf w2 hof hcf hdf hf2 hk2; have hb2b : RowAt w2 (w.heap.size + 1) 35 [.slice none 0 0, .slice none 0 0] := hk2 _ _ _ (by first | with_reducible exact hb2 | with_reducible exact hb2.alloc _) (by decide); have hosb : Own w2 w.heap.size 9 qs (n.nodes.map Value.string) := Own.grown (by first | exact hos | exact hos.keep (fnew (frefl _) _)) hk2 (by decide); have hb1b : RowAt w2 w.heap.size 35 [.slice q nn c, .slice p nf d] := hk2 _ _ _ (by first | with_reducible exact hb1 | with_reducible exact hb1.alloc _) (by decide); have hSS2 : Fresh w w2 ∧ w2.cell? ⟨w.heap.size, 0, none⟩ = some (.slice q nn c) ∧ w2.cell? ⟨w.heap.size, 1, none⟩ = some (.slice p nf d) := ⟨hf2, (hk2 _ _ _ (by first | with_reducible exact hb1 | with_reducible exact hb1.alloc _) (by decide)).cell (i := 0) rfl, (hk2 _ _ _ (by first | with_reducible exact hb1 | with_reducible exact hb1.alloc _) (by decide)).cell (i := 1) rfl⟩; have f0 := hb2b.cell (i := 0) rfl; have f1 := hb2b.cell (i := 1) rfl; have z0 := hb2b.frozen 0; have z1 := hb2b.frozen 1) | (refine step_app0D (some 6) rfl Tryz.underlying22 infoStr rfl (by decide) (by decide) w _ q nn _ (n.nodes.map Value.string) rfl _ _ rfl rfl (by first | with_reducible exact rr2 _ _ _ _ rfl | with_reducible exact rf2 _ _ _ _ _ rfl | with_reducible exact rf3 _ _ _ _ _ rfl) (by omega) rfl (HS.out _ (by first | with_reducible exact fdrew (fnew (fnew (fnew (fnew (frefl _) _) _) _) _) | with_reducible exact fdrew (fnew (fnew (fnew (frefl _) _) _) _))) HLS.out (one_strs _) (by omega) (by first | with_reducible exact fdrew (fnew (fnew (fnew (fnew (frefl _) _) _) _) _) | with_reducible exact fdrew (fnew (fnew (fnew (frefl _) _) _) _)) ?_; intro qs cs w1 hos hcs hds hf hk; have hsz := hf.size; have hb2 : RowAt w1 (w.heap.size + 1) 35 [.slice none 0 0, .slice none 0 0] := hk _ _ _ (by first | with_reducible exact rr1 _ _ _ _ rfl | with_reducible exact rf1 _ _ _ _ _ rfl) (by decide); have hb1 : RowAt w1 w.heap.size 35 [.slice q nn c, .slice p nf d] := hk _ _ _ (by first | with_reducible exact rr0 _ _ _ _ rfl | with_reducible exact rf0 _ _ _ _ _ rfl) (by decide); have e0 := hb1.cell (i := 0) rfl; have e1 := hb1.cell (i := 1) rfl; have hSS : Fresh w w1 ∧ w1.cell? ⟨w.heap.size, 0, none⟩ = some (.slice q nn c) ∧ w1.cell? ⟨w.heap.size, 1, none⟩ = some (.slice p nf d) := ⟨hf, e0, e1⟩) | (refine step_app0D (some 10) rfl Tryz.underlying33 infoFib rfl (by decide) (by decide) w _ p nf _ (n.fibers.flatMap fibC) rfl _ _ rfl rfl (by first | with_reducible exact rr2 _ _ _ _ rfl | with_reducible exact rf2 _ _ _ _ _ rfl | with_reducible exact rf3 _ _ _ _ _ rfl) (by omega) rfl (HP.out _ (by first | with_reducible exact fdrew (fnew (fnew (fnew (fnew (frefl _) _) _) _) _) | with_reducible exact fdrew (fnew (fnew (fnew (frefl _) _) _) _))) HLF.out (one_fibs _) (by omega) (by first | with_reducible exact fdrew (fnew (fnew (fnew (fnew (frefl _) _) _) _) _) | with_reducible exact fdrew (fnew (fnew (fnew (frefl _) _) _) _)) ?_; intro qf cf w1 hof hcf hdf hf hk; have hsz := hf.size; have hb2 : RowAt w1 (w.heap.size + 1) 35 [.slice none 0 0, .slice none 0 0] := hk _ _ _ (by first | with_reducible exact rr1 _ _ _ _ rfl | with_reducible exact rf1 _ _ _ _ _ rfl) (by decide); have hb1 : RowAt w1 w.heap.size 35 [.slice q nn c, .slice p nf d] := hk _ _ _ (by first | with_reducible exact rr0 _ _ _ _ rfl | with_reducible exact rf0 _ _ _ _ _ rfl) (by decide); have e0 := hb1.cell (i := 0) rfl; have e1 := hb1.cell (i := 1) rfl; have hSS : Fresh w w1 ∧ w1.cell? ⟨w.heap.size, 0, none⟩ = some (.slice q nn c) ∧ w1.cell? ⟨w.heap.size, 1, none⟩ = some (.slice p nf d) := ⟨hf, e0, e1⟩))
    all_goals (go_wp2_with fail)
    all_goals go_meet
    all_goals first
      | exact ⟨qs, cs, qf, cf, (hb2b.set 0 _).set 1 _, (hosb.setO hb2b (by decide) _ _).setO (hb2b.set 0 _) (by decide) _ _, (hof.setO hb2b (by decide) _ _).setO (hb2b.set 0 _) (by decide) _ _, hcs, hds, fset (fset hf2 (by omega) _) (by omega) _⟩
      | exact ⟨qs, cs, qf, cf, (hb2b.set 0 _).set 1 _, (hos.setO hb2b (by decide) _ _).setO (hb2b.set 0 _) (by decide) _ _, (hofb.setO hb2b (by decide) _ _).setO (hb2b.set 0 _) (by decide) _ _, hcs, hds, fset (fset hf2 (by omega) _) (by omega) _⟩
  case rest =>
    obtain ⟨q', c', p', d', hr, ho, ho2, h1, h2, hf⟩ := hcut
    have k0 := hr.cell (i := 0) rfl
    have k1 := hr.cell (i := 1) rfl
    go_wp2
    refine bodyPost_ret (v := .agg #[.slice q' nn c', .slice p' nf d']) (by simp [results, Tryz.results85, go_sem, k0, k1]) rfl ?_
    exact ⟨q', c', p', d', rfl, ho, ho2, h1, h2, hf⟩
end Go.Proofs.YteckjlkhopkogaaGreat
