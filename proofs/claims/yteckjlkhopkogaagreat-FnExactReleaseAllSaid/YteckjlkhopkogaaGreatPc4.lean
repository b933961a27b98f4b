/- Contracts: copies of lights and of plans, the program's side. -/
import Derived.Test.YteckjlkhopkogaaGreatPc3
namespace Go.Proofs.YteckjlkhopkogaaGreat
open Go.RowKit Go.PlainAid

theorem kp5 {w w1 w2 : World} {b : Nat} {v0 v1 v2 v3 v4 : Value} (h : Fresh w w1 ∧ w1.cell? ⟨b, 0, none⟩ = some v0 ∧ w1.cell? ⟨b, 1, none⟩ = some v1 ∧ w1.cell? ⟨b, 2, none⟩ = some v2 ∧ w1.cell? ⟨b, 3, none⟩ = some v3 ∧ w1.cell? ⟨b, 4, none⟩ = some v4) (hb : Fresh w1 w2) :
    Fresh w w2 ∧ w2.cell? ⟨b, 0, none⟩ = some v0 ∧ w2.cell? ⟨b, 1, none⟩ = some v1 ∧ w2.cell? ⟨b, 2, none⟩ = some v2 ∧ w2.cell? ⟨b, 3, none⟩ = some v3 ∧ w2.cell? ⟨b, 4, none⟩ = some v4 :=
  ⟨fstep h.1 hb, fkeep hb h.2.1, fkeep hb h.2.2.1, fkeep hb h.2.2.2.1, fkeep hb h.2.2.2.2.1, fkeep hb h.2.2.2.2.2⟩
theorem s5 {w0 w : World} {b : Nat} {t : TypeId} {v0 v1 v2 v3 v4 : Value} (hf : Fresh w0 w) (h : RowAt w b t [v0, v1, v2, v3, v4]) : Fresh w0 w ∧ w.cell? ⟨b, 0, none⟩ = some v0 ∧ w.cell? ⟨b, 1, none⟩ = some v1 ∧ w.cell? ⟨b, 2, none⟩ = some v2 ∧ w.cell? ⟨b, 3, none⟩ = some v3 ∧ w.cell? ⟨b, 4, none⟩ = some v4 :=
  ⟨hf, h.cell (i := 0) rfl, h.cell (i := 1) rfl, h.cell (i := 2) rfl, h.cell (i := 3) rfl, h.cell (i := 4) rfl⟩
theorem DistL.snoc {l : List LL} (h : DistL l) {x : LL} (hx : ∀ y ∈ l, ∀ g o h o', x.r.q = some ⟨g, o, none⟩ → y.r.q = some ⟨h, o', none⟩ → g ≠ h) : DistL (l ++ [x]) := by
  intro i j a b hij ha hb g o h' o' e1 e2
  have at' : ∀ (k : Nat) (y : LL), (l ++ [x])[k]? = some y → (k < l.length ∧ l[k]? = some y) ∨ (k = l.length ∧ y = x) := by
    intro k y hk
    rw [List.getElem?_append] at hk
    split at hk
    · next hlt => exact Or.inl ⟨hlt, hk⟩
    · next hge =>
      rcases Nat.eq_zero_or_pos (k - l.length) with h0 | h0
      · rw [h0] at hk; simp at hk; exact Or.inr ⟨by omega, hk.symm⟩
      · rw [List.getElem?_eq_none (by simp; omega)] at hk; cases hk
  rcases at' i a ha with ⟨_, h1⟩ | ⟨hi, rfl⟩
  · rcases at' j b hb with ⟨_, h2⟩ | ⟨hj, rfl⟩
    · exact h i j a b hij h1 h2 g o h' o' e1 e2
    · exact (hx a (List.mem_of_getElem? h1) h' o' g o e2 e1).symm
  · rcases at' j b hb with ⟨_, h2⟩ | ⟨hj, rfl⟩
    · exact hx b (List.mem_of_getElem? h2) g o h' o' e1 e2
    · omega
theorem owns_setO {w : World} {base g : Nat} {E T : TypeId} {size n : Nat} {v u : Value} {xs cs : List Value} (h : w.ownsRow base E size v n xs) (hr : RowAt w g T cs) (hT : E ≠ T) (i : Nat) : (w.setCell ⟨g, i, none⟩ u).ownsRow base E size v n xs := by
  obtain ⟨h1, h2 | ⟨b, cap, cur, hv, hb, hh, h3⟩⟩ := h
  · exact ⟨h1, Or.inl h2⟩
  · refine ⟨h1, Or.inr ⟨b, cap, cur, hv, hb, ?_, h3⟩⟩
    have hne : b ≠ g := by
      intro e
      subst e
      unfold RowAt at hr
      rw [hh] at hr
      simp only [Option.some.injEq, Obj.cells.injEq] at hr
      exact hT hr.2.1
    rw [Below.heap_setCell _ _ _ _ hne]; exact hh
theorem owns_lt {w : World} {base : Nat} {E : TypeId} {size n : Nat} {v : Value} {xs : List Value} (h : w.ownsRow base E size v n xs) {g : Nat} (hv : v.ownBlock = some g) : g < w.heap.size := by
  rcases h.2 with ⟨rfl, _⟩ | ⟨b, cap, cur, rfl, _, hh, _⟩
  · cases hv
  · simp only [Value.ownBlock, Option.some.injEq] at hv
    subst hv
    rcases Nat.lt_or_ge b w.heap.size with h' | h'
    · exact h'
    · rw [Array.getElem?_eq_none h'] at hh; cases hh
/-- One more element, as a step of a region that draws its order: every row but the grown one stays. -/
theorem step_app_b {T E : TypeId} {z : Value} {size bytes : Nat} (hu : Tryz.prog.underlying T = some (.slice E)) (hinfo : (Tryz.prog.info? E).map (fun i => (i.zero, i.size, i.bytes)) = some (some z, size, bytes))
    (hzs : z.cells.size = size) (hsz : 0 < size) (hby : bytes ≤ 128) {ops : Array Oper} {o : Oper} {a : Act} {K : Act → World → Prop} {Q : Exit → Act → World → Prop} {F : Prop} (w0 w1 : World) (v : Value) (n : Nat) (xs news : List Value)
    (g0 : Nat) (hl : news.length = size) (hone : ∀ u ∈ news, u.oneCell' = true) (hgd : o.guard = none) (s t : Operand)
    (ho : o.op = .call { callee := .builtin .append, args := #[s, t], argTypes := #[T, T] }) (hs : a.eval s = v) (hown : w1.ownsRow w0.heap.size E size v n xs)
    (hx : a.eval t = .slice (some ⟨g0, 0, none⟩) 1 1) (hg0 : g0 = w1.heap.size) (hn : n ≤ 1048576) (hf : Fresh w0 w1)
    (h : ∀ v' w', w'.ownsRow w0.heap.size E size v' (n + 1) (xs ++ news) → Fresh w0 w' → (∀ g t cs, RowAt w1 g t cs → (t ≠ E ∨ v.ownBlock ≠ some g) → RowAt w' g t cs) → K (a.put o.dst v') w') :
    if Region.wanted o (yielded ops a.tmps) = true then Oper.wp Tryz.prog o a (w1.alloc (.cells news.toArray E)) K Q else F := by
  have hw : Region.wanted o (yielded ops a.tmps) = true := by simp [Region.wanted, hgd]
  rw [if_pos hw]
  subst hg0
  obtain ⟨i0, hi, hz0, hz1, hz2⟩ := info_parts hinfo
  refine wp_append_own _ s t T ho w0.heap.size E i0 z size bytes hu hi hz0 hz1 hz2 hzs hsz v n xs hs (hown.alloc _) ⟨w1.heap.size, 0, none⟩ 1 1 news hx (by omega)
    (add_new w1 E news) hone (by unfold maxLen; omega) (Nat.le_trans (Nat.mul_le_mul (by omega : n + 1 ≤ 1048577) hby) (by omega)) (Nat.le_trans hf.size (by simp)) ?_
  intro v' w' hown' hgrow _
  refine h v' w' hown' (fgrown (fnew hf _) hgrow (own_block hown)) fun g t cs hr ht => ?_
  rcases ht with ht | ht
  · exact row_grown hown hgrow hr ht
  · have hba := hr.alloc (.cells news.toArray E)
    unfold RowAt
    rw [hgrow.block g hba.lt (fun he => ht he.symm)]
    exact hba
theorem wpList_app_b {T E : TypeId} {z : Value} {size bytes : Nat} (hu : Tryz.prog.underlying T = some (.slice E)) (hinfo : (Tryz.prog.info? E).map (fun i => (i.zero, i.size, i.bytes)) = some (some z, size, bytes))
    (hzs : z.cells.size = size) (hsz : 0 < size) (hby : bytes ≤ 128) {ops : Array Oper} {rest : List Oper} {o : Oper} {a : Act} {Q : Exit → Act → World → Prop} (w0 w1 : World) (v : Value) (n : Nat) (xs news : List Value)
    (g0 : Nat) (hl : news.length = size) (hone : ∀ u ∈ news, u.oneCell' = true) (hgd : o.guard = none) (s t : Operand)
    (ho : o.op = .call { callee := .builtin .append, args := #[s, t], argTypes := #[T, T] }) (hs : a.eval s = v) (hown : w1.ownsRow w0.heap.size E size v n xs)
    (hx : a.eval t = .slice (some ⟨g0, 0, none⟩) 1 1) (hg0 : g0 = w1.heap.size) (hn : n ≤ 1048576) (hf : Fresh w0 w1)
    (h : ∀ v' w', w'.ownsRow w0.heap.size E size v' (n + 1) (xs ++ news) → Fresh w0 w' → (∀ g t cs, RowAt w1 g t cs → (t ≠ E ∨ v.ownBlock ≠ some g) → RowAt w' g t cs) → wpList Tryz.prog ops Q rest (a.put o.dst v') w') :
    wpList Tryz.prog ops Q (o :: rest) a (w1.alloc (.cells news.toArray E)) :=
  wpList_plain hgd fun K hK => by
    have hw : Region.wanted o (yielded #[] a.tmps) = true := by simp [Region.wanted, hgd]
    have := step_app_b (ops := #[]) (K := K) (Q := Q) (F := True) hu hinfo hzs hsz hby w0 w1 v n xs news g0 hl hone hgd s t ho hs hown hx hg0 hn hf fun v' w' h1 h2 h3 => hK _ _ (h v' w' h1 h2 h3)
    rw [if_pos hw] at this
    exact this
set_option maxHeartbeats 2000000 in
set_option maxRecDepth 20000 in
theorem l9Copy_any (x : LL) (w : World) (hI : Ints w x.r.q x.r.fibs) (hn : x.r.fibs.length ≤ 1048576) :
    Calls Tryz.prog 86 #[llV x] w fun e w' => ∃ q' c', e = .returned (.agg #[iv x.id, iv x.r.start, .slice q' x.r.fibs.length c', iv x.f, iv x.c]) ∧ Own w' w.heap.size 3 q' (x.r.fibs.map iv) ∧ Fresh w w' := by
  obtain ⟨id, ⟨s, q, cap, l⟩, bf, bc⟩ := x
  simp only at hI hn ⊢
  obtain ⟨W2, hW2, hsz2, hf2, r1, r2⟩ := two_rows w [.int .i64 id, .int .i64 s, .slice q l.length cap, .int .i64 bf, .int .i64 bc] [.int .i64 0, .int .i64 0, .slice none 0 0, .int .i64 0, .int .i64 0] 94 94
  have HI := Lib.hid (hI.keep hf2)
  have HF2 := Lib.hid hf2
  have HR1 := Lib.hid r1
  have HR2 := Lib.hid r2
  have HW2 := Lib.hid hW2
  have hsz := hf2.size
  have HSS := s5 hf2 r1
  clear hI hf2 r1 r2 hW2
  go_enter Tryz.func86, Tryz.ntmps86
  go_wp2_with fail
  rw [← HW2.out]
  go_region_held3 (fun w' => Fresh w w' ∧ w'.cell? ⟨w.heap.size, 0, none⟩ = some (.int .i64 id) ∧ w'.cell? ⟨w.heap.size, 1, none⟩ = some (.int .i64 s) ∧ w'.cell? ⟨w.heap.size, 2, none⟩ = some (.slice q l.length cap) ∧ w'.cell? ⟨w.heap.size, 3, none⟩ = some (.int .i64 bf) ∧ w'.cell? ⟨w.heap.size, 4, none⟩ = some (.int .i64 bc))
    (first | with_reducible assumption | exact s5 (fset (fset (fset (fset (fset (fstep HF2.out hfr) (by omega) _) (by omega) _) (by omega) _) (by omega) _) (by omega) _) (((((hr1.setOther (by omega) _).setOther (by omega) _).setOther (by omega) _).setOther (by omega) _).setOther (by omega) _) | with_reducible exact kp5 HSS hfr | with_reducible exact kp5 HSS (fdrew (frefl _)) | with_reducible exact kp5 HSS (frefl _))
    (first | (go_at_call 113; refine (l4Own_any s q cap l _ (HI.out.keep (fdrew (frefl _))) hn).mono ?_; rintro e w1 ⟨q', c', rfl, ho, hb⟩; have hfr : Fresh W2 w1 := fstep (fdrew (frefl _)) hb; have hr := HR2.out.keep hfr; have hr1 := HR1.out.keep hfr; have f0 := hr.cell (i := 0) rfl; have f1 := hr.cell (i := 1) rfl; have f2 := hr.cell (i := 2) rfl; have f3 := hr.cell (i := 3) rfl; have f4 := hr.cell (i := 4) rfl; have z0 := hr.frozen 0; have z1 := hr.frozen 1; have z2 := hr.frozen 2; have z3 := hr.frozen 3; have z4 := hr.frozen 4; have hsw := hfr.size))
  have HO := Lib.hid (ho.mono (by simpa using hsz))
  have HF := Lib.hid (fstep HF2.out hfr)
  have HR := Lib.hid hr
  have hfin := ((((hr.set 0 (.int .i64 id)).set 1 (.int .i64 s)).set 2 (.slice q' l.length c')).set 3 (.int .i64 bf)).set 4 (.int .i64 bc)
  have k0 := hfin.cell (i := 0) rfl
  have k1 := hfin.cell (i := 1) rfl
  have k2 := hfin.cell (i := 2) rfl
  have k3 := hfin.cell (i := 3) rfl
  have k4 := hfin.cell (i := 4) rfl
  clear ho hb hr hr1 HSS hfin
  go_wp2
  refine bodyPost_ret (v := .agg #[.int .i64 id, .int .i64 s, .slice q' l.length c', .int .i64 bf, .int .i64 bc]) (by simp [results, Tryz.results86, go_sem, k0, k1, k2, k3, k4]) rfl ?_
  refine ⟨q', c', rfl, ?_, fset (fset (fset (fset (fset HF.out (by omega) _) (by omega) _) (by omega) _) (by omega) _) (by omega) _⟩
  exact ((((HO.out.setO HR.out (by decide) _ _).setO (HR.out.set 0 _) (by decide) _ _).setO ((HR.out.set 0 _).set 1 _) (by decide) _ _).setO (((HR.out.set 0 _).set 1 _).set 2 _) (by decide) _ _).setO ((((HR.out.set 0 _).set 1 _).set 2 _).set 3 _) (by decide) _ _
end Go.Proofs.YteckjlkhopkogaaGreat
