/- Contracts: a plan without one of its lights, the program's side. -/
import Derived.Test.YtmpdljcihiidaaaGreatDl2
namespace Go.Proofs.YtmpdljcihiidaaaGreat
open Go.RowKit Go.PlainAid

theorem DistL.erase {l : List LL} (h : DistL l) (i : Nat) : DistL (l.eraseIdx i) := by
  intro a b x y hab hx hy g o h' o' e1 e2
  rw [List.getElem?_eraseIdx] at hx hy
  have key : (if a < i then a else a + 1) ≠ (if b < i then b else b + 1) := by split <;> split <;> omega
  refine h _ _ x y key ?_ ?_ g o h' o' e1 e2
  · split at hx
    · next hlt => rw [if_pos hlt]; exact hx
    · next hge => rw [if_neg hge]; exact hx
  · split at hy
    · next hlt => rw [if_pos hlt]; exact hy
    · next hge => rw [if_neg hge]; exact hy
theorem map_erase {α β : Type} (f : α → β) (l : List α) (i : Nat) : (l.eraseIdx i).map f = (l.map f).eraseIdx i := by
  rw [List.eraseIdx_eq_take_drop_succ, List.eraseIdx_eq_take_drop_succ, List.map_append, List.map_take, List.map_drop]
theorem mem_erase {α : Type} {l : List α} {i : Nat} {x : α} (h : x ∈ l.eraseIdx i) : x ∈ l := List.mem_of_mem_eraseIdx h
/-- Rows of other types than the one that has changed. -/
theorem Own.ne {w w' : World} {base g : Nat} {t T : TypeId} {q : Option Addr} {xs cs : List Value} (h : Own w base t q xs) (hr : RowAt w g T cs) (hT : t ≠ T) (hk : ∀ h t cs, RowAt w h t cs → h ≠ g → RowAt w' h t cs) : Own w' base t q xs := by
  rcases h with h | ⟨b, sp, h1, h2, h3⟩
  · exact Or.inl h
  · exact Or.inr ⟨b, sp, h1, h2, hk _ _ _ h3 fun e => by subst e; exact hT (h3.inj hr).1⟩
set_option maxHeartbeats 4000000 in
set_option maxRecDepth 100000 in
theorem withoutLight_any (v : Value) (P : PlanV) (i : Nat) (w : World) (h : PlIn w v P) (hi : i < P.lights.length) : Calls Tryz.prog 76 #[v, .int .i64 (i : Int)] w fun e w' => ∃ v', e = .returned v' ∧ PlOwn w' w.heap.size v' ⟨P.net, P.lights.eraseIdx i⟩ ∧ Fresh w w' := by
  have HP := Lib.hid h
  obtain ⟨q, c, p, d, r, e0, l, rfl, _, _, hs, hv, _⟩ := h.parts
  have hn := hs.1
  have hil : i < l.length := by rw [hv] at hi; simpa using hi
  obtain ⟨nn, hnn⟩ : ∃ k, k = P.net.nodes.length := ⟨_, rfl⟩
  obtain ⟨nf, hnf⟩ : ∃ k, k = P.net.fibers.length := ⟨_, rfl⟩
  rw [← hnn, ← hnf] at HP ⊢
  obtain ⟨W2, hW2, hsz2, hf2, r1, r2⟩ := two_rows w [.slice q nn c, .slice p nf d, .slice r l.length e0] [.slice none 0 0, .slice none 0 0, .slice none 0 0] 51 51
  have HC := Lib.hid (copyPlan_any _ P W2 (HP.out.keep hf2))
  have HF2 := Lib.hid hf2
  have HR2 := Lib.hid r2
  have HW2 := Lib.hid hW2
  have HNN := Lib.hid hnn
  have HNF := Lib.hid hnf
  have HV0 := Lib.hid hv
  have hsz := hf2.size
  clear h hs hf2 r1 r2 hW2 hnn hnf hi hv
  go_enter Tryz.func76, Tryz.ntmps76
  go_wp2_with fail
  rw [← HW2.out]
  refine (HC.out).mono ?_
  rintro e w1 ⟨v1, rfl, ho, hb⟩
  obtain ⟨q', c', p', d', r', e', l', rfl, o1, o2, o3, o4, o5, o6, o7, o8, o9, o10⟩ := ho
  rw [← HNN.out] at o7 ⊢
  rw [← HNF.out]
  have hll : l'.length = l.length := by
    have e1 := congrArg List.length o6
    have e2 := congrArg List.length HV0.out
    simp at e1 e2; omega
  have hil' : i < l'.length := by omega
  obtain ⟨g, sp, rfl, hg, hr⟩ : ∃ g sp, r' = some ⟨g, 0, none⟩ ∧ W2.heap.size ≤ g ∧ RowAt w1 g 91 (l'.flatMap llC ++ sp) := by
    rcases o3 with ⟨_, h0⟩ | h0
    · exfalso
      have := congrArg List.length h0
      rw [flat_len llC 5 (fun _ => rfl)] at this
      simp at this; omega
    · exact h0
  obtain ⟨W4, hW4⟩ : ∃ W4, W4 = w1.alloc (.cells #[.slice q' nn c', .slice p' nf d', .slice (some ⟨g, 0, none⟩) l'.length e'] 51) := ⟨_, rfl⟩
  have hf4 : Fresh w1 W4 := by rw [hW4]; exact fnew (frefl _) _
  have hr4 : RowAt W4 w1.heap.size 51 [.slice q' nn c', .slice p' nf d', .slice (some ⟨g, 0, none⟩) l'.length e'] := by rw [hW4]; exact RowAt.new _ _ _
  have HRG := Lib.hid (hr.keep hf4)
  have HR4 := Lib.hid hr4
  have HRZ := Lib.hid ((HR2.out.keep hb).keep hf4)
  have HF := Lib.hid (fstep HF2.out (fstep hb hf4))
  have HO1 := Lib.hid ((o1.mono hsz).keep hf4)
  have HO2 := Lib.hid ((o2.mono hsz).keep hf4)
  have HO4 : Hid (∀ x ∈ l', Own W4 w.heap.size 3 x.r.q (x.r.fibs.map iv)) := fun x hx => ((o4 x hx).mono hsz).keep hf4
  have HD := Lib.hid o5
  have HV := Lib.hid o6
  have HDEL := Lib.hid (sliceDelete_any g e' i l' sp W4 HRG.out o9 o10 hil' (by omega))
  have a2 := hr4.cell (i := 2) rfl
  have hgw : w.heap.size ≤ g := Nat.le_trans hsz hg
  have hgl := hr.lt
  have hwz := hb.size
  have hwr : IntKind.i64.wrap ((i : Int) + 1) = (i : Int) + 1 := by rw [IntKind.wrap_i64]; omega
  have HW4 := Lib.hid hW4
  have HO7 := Lib.hid o7
  have HO9 := Lib.hid o9
  have HLL := Lib.hid hll
  have HIL := Lib.hid hil'
  have hl1 : l'.length - 1 ≤ e' := by omega
  obtain ⟨n1, hn1⟩ : ∃ n1, n1 = l'.length - 1 := ⟨_, rfl⟩
  rw [← hn1] at HDEL
  have HN1 := Lib.hid hn1
  clear hb hf4 hW4 hr hr4 o1 o2 o3 o4 o5 o6 HC o7 o9 hll hn1
  go_wp2_with fail
  rw [← HW4.out]
  refine (HDEL.out).mono ?_
  rintro e w2 ⟨rfl, ⟨sp', hd1⟩, hd2, hd3⟩
  have HD1 := Lib.hid hd1
  have HD2 := Lib.hid hd2
  have HFX := Lib.hid (hd3 w HF.out hgw)
  have hne4 : w1.heap.size ≠ g := by omega
  have hne2 : w.heap.size + 1 ≠ g := by omega
  have hp2 := hd2 _ _ _ HR4.out hne4
  have hz2 := hd2 _ _ _ HRZ.out hne2
  have y0 := hp2.cell (i := 0) rfl
  have y1 := hp2.cell (i := 1) rfl
  have y2 := hp2.cell (i := 2) rfl
  have yf := hp2.frozen 2
  have hne12 : w.heap.size + 1 ≠ w1.heap.size := by omega
  have HP2 := Lib.hid hp2
  have HZ2 := Lib.hid hz2
  obtain ⟨W5, hW5⟩ : ∃ W5, W5 = w2.setCell ⟨w1.heap.size, 2, none⟩ (.slice (some ⟨g, 0, none⟩) n1 e') := ⟨_, rfl⟩
  have hp5 : RowAt W5 w1.heap.size 51 [.slice q' nn c', .slice p' nf d', .slice (some ⟨g, 0, none⟩) n1 e'] := by rw [hW5]; exact hp2.set 2 _
  have hz5 : RowAt W5 (w.heap.size + 1) 51 [.slice none 0 0, .slice none 0 0, .slice none 0 0] := by rw [hW5]; exact hz2.setOther hne12 _
  have m0 := hp5.cell (i := 0) rfl
  have m1 := hp5.cell (i := 1) rfl
  have m2 := hp5.cell (i := 2) rfl
  have x0 := hz5.cell (i := 0) rfl
  have x1 := hz5.cell (i := 1) rfl
  have x2 := hz5.cell (i := 2) rfl
  have u0 := hz5.frozen 0
  have u1 := hz5.frozen 1
  have u2 := hz5.frozen 2
  have hfin := ((hz5.set 0 (.slice q' nn c')).set 1 (.slice p' nf d')).set 2 (.slice (some ⟨g, 0, none⟩) n1 e')
  have k0 := hfin.cell (i := 0) rfl
  have k1 := hfin.cell (i := 1) rfl
  have k2 := hfin.cell (i := 2) rfl
  have HZ5 := Lib.hid hz5
  have HP5 := Lib.hid hp5
  have HW5 := Lib.hid hW5
  rw [hW5] at m0 m1 m2 x0 x1 x2 u0 u1 u2 k0 k1 k2
  clear hd1 hd2 hd3 hp2 hz2 hp5 hz5 hfin hW5 HDEL a2
  go_wp2
  refine bodyPost_ret (v := .agg #[.slice q' nn c', .slice p' nf d', .slice (some ⟨g, 0, none⟩) n1 e']) (by simp [results, Tryz.results76, go_sem, k0, k1, k2]) rfl ?_
  rw [← HW5.out]
  have hS : ∀ {t : TypeId} {pp : Option Addr} {cs : List Value}, Own w2 w.heap.size t pp cs → t ≠ 51 → Own (((W5.setCell ⟨w.heap.size + 1, 0, none⟩ (.slice q' nn c')).setCell ⟨w.heap.size + 1, 1, none⟩ (.slice p' nf d')).setCell ⟨w.heap.size + 1, 2, none⟩ (.slice (some ⟨g, 0, none⟩) n1 e')) w.heap.size t pp cs := by
    intro t pp cs h n
    have h5 : Own W5 w.heap.size t pp cs := by rw [HW5.out]; exact h.setO HP2.out n _ _
    exact ((h5.setO HZ5.out n _ _).setO (HZ5.out.set 0 _) n _ _).setO ((HZ5.out.set 0 _).set 1 _) n _ _
  have hel : (l'.eraseIdx i).length = n1 := by rw [List.length_eraseIdx, if_pos HIL.out, ← HN1.out]
  have hF5 : Fresh w W5 := by rw [HW5.out]; exact fset HFX.out (by omega) _
  refine ⟨_, rfl, ⟨q', c', p', d', some ⟨g, 0, none⟩, e', l'.eraseIdx i, by simp only; rw [hel, HNN.out, HNF.out], hS (HO1.out.ne HRG.out (by decide) HD2.out) (by decide), hS (HO2.out.ne HRG.out (by decide) HD2.out) (by decide), hS (Or.inr ⟨g, sp', rfl, hgw, HD1.out⟩) (by decide), fun x hx => hS ((HO4.out x (mem_erase hx)).ne HRG.out (by decide) HD2.out) (by decide), HD.out.erase i, ?_, by simp only; rw [← HNN.out]; exact HO7.out, o8, by rw [hel, HN1.out]; exact hl1, o10⟩, fset (fset (fset hF5 (by omega) _) (by omega) _) (by omega) _⟩
  simp only
  rw [map_erase, ← HV.out]
end Go.Proofs.YtmpdljcihiidaaaGreat
