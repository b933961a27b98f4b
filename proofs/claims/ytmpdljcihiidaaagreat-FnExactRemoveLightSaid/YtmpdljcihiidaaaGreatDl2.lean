/- Contracts: slices.Delete of one light. -/
import Derived.Test.YtmpdljcihiidaaaGreatDl
namespace Go.Proofs.YtmpdljcihiidaaaGreat
open Go.RowKit Go.PlainAid

set_option maxHeartbeats 4000000 in
set_option maxRecDepth 100000 in
theorem sliceDelete_any (g cap i : Nat) (l : List LL) (sp : List Value) (w : World) (hr : RowAt w g 91 (l.flatMap llC ++ sp)) (hcap : l.length ≤ cap) (hcm : cap ≤ 9223372036854775807) (hi : i < l.length) (hn : l.length ≤ 1048576) :
    Calls Tryz.prog 119 #[.slice (some ⟨g, 0, none⟩) l.length cap, .int .i64 (i : Int), .int .i64 ((i : Int) + 1)] w fun e w' => e = .returned (.slice (some ⟨g, 0, none⟩) (l.length - 1) cap) ∧
      (∃ sp', RowAt w' g 91 ((l.eraseIdx i).flatMap llC ++ sp')) ∧ (∀ h t cs, RowAt w h t cs → h ≠ g → RowAt w' h t cs) ∧ (∀ w0 : World, Fresh w0 w → w0.heap.size ≤ g → Fresh w0 w') := by
  have hl5 : (l.flatMap llC).length = l.length * 5 := flat_len llC 5 (fun _ => rfl) l
  have hd5 : ((l.drop (i + 1)).flatMap llC).length = (l.length - (i + 1)) * 5 := by rw [flat_len llC 5 (fun _ => rfl)]; simp
  obtain ⟨sp', hsp⟩ := del_row (sp := sp) hi
  obtain ⟨news, hnews⟩ : ∃ news, news = (l.drop (i + 1)).flatMap llC := ⟨_, rfl⟩
  rw [← hnews] at hd5 hsp
  have hget : ∀ t u, news[t]? = some u → w.cell? ⟨g, (i + 1) * 5 + t, none⟩ = some u := by
    intro t u hu
    refine hr.cell ?_
    have ht : t < news.length := by
      rcases Nat.lt_or_ge t news.length with h' | h'
      · exact h'
      · rw [List.getElem?_eq_none h'] at hu; cases hu
    have e : l.flatMap llC = (l.take (i + 1)).flatMap llC ++ (l.drop (i + 1)).flatMap llC := by rw [← List.flatMap_append, List.take_append_drop]
    have ht5 : ((l.take (i + 1)).flatMap llC).length = (i + 1) * 5 := by rw [flat_len llC 5 (fun _ => rfl)]; simp; omega
    rw [List.getElem?_append_left (by omega), e, List.getElem?_append_right (by omega), ht5, ← hnews, show (i + 1) * 5 + t - (i + 1) * 5 = t by omega]
    exact hu
  have hone : ∀ u ∈ news, u.oneCell' = true := by
    intro u hu
    rw [hnews] at hu
    obtain ⟨x, _, hx⟩ := List.mem_flatMap.1 hu
    exact one_lt x u hx
  obtain ⟨A, hA, hsrc⟩ : ∃ A : Addr, (if cap = i + 1 then (some (⟨g, 0, none⟩ : Addr)) else some ⟨g, (i + 1) * 5, none⟩) = some A ∧ ∀ t u, news[t]? = some u → w.drew.cell? (A.add t) = some u := by
    by_cases h : cap = i + 1
    · refine ⟨⟨g, 0, none⟩, by simp [h], fun t u hu => ?_⟩
      have h0 : news.length = 0 := by rw [hd5]; omega
      rw [List.length_eq_zero_iff.1 h0] at hu
      simp at hu
    · refine ⟨⟨g, (i + 1) * 5, none⟩, by simp [h], fun t u hu => ?_⟩
      have h0 := hget t u hu
      unfold Addr.add
      split
      · next e => subst e; exact h0
      · exact h0
  obtain ⟨i0, hi0, hz0, hz1, hz2⟩ := info_parts infoLt
  obtain ⟨W1, hW1⟩ : ∃ W1, W1 = w.drew.setCells g (i * 5) news := ⟨_, rfl⟩
  have hr1 : RowAt W1 g 91 (spl (l.flatMap llC ++ sp) (i * 5) news) := by rw [hW1]; exact row_setCells g _ news (i * 5) _ _ (hr.keep (fdrew (frefl _)))
  have hlen1 : (spl (l.flatMap llC ++ sp) (i * 5) news).length = l.length * 5 + sp.length := by rw [spl_len, List.length_append, hl5]
  have hcl : ∀ ty, (Builtin.clear_ #[49] ty #[.slice (some ⟨g, (l.length - 1) * 5, none⟩) 1 (cap - (l.length - 1))]).run Tryz.prog W1 = .ok (.tuple #[]) (W1.setCells g ((l.length - 1) * 5) zLt5) := fun ty =>
    run_clear_lt W1 ty g ((l.length - 1) * 5) _ (fun j hj => by
      have hlt : (l.length - 1) * 5 + j < (spl (l.flatMap llC ++ sp) (i * 5) news).length := by rw [hlen1]; omega
      rw [hr1.cell (List.getElem?_eq_getElem hlt)]; rfl) (fun j hj => hr1.frozen _)
  have hspare : ∀ t, t < news.length → (w.drew.cell? ⟨g, 0 + i * 5 + t, none⟩).isSome = true ∧ w.drew.frozen? ⟨g, 0 + i * 5 + t, none⟩ = false := by
    intro t ht
    have hrd := hr.keep (fdrew (frefl w))
    have hlt : 0 + i * 5 + t < (l.flatMap llC ++ sp).length := by rw [List.length_append, hl5]; omega
    exact ⟨by rw [hrd.cell (List.getElem?_eq_getElem hlt)]; rfl, hrd.frozen _⟩
  have HR1 := Lib.hid hr1
  have HSRC := Lib.hid hsrc
  have HONE := Lib.hid hone
  have HSP := Lib.hid hspare
  have HNL : Hid (news.length = (l.length - (i + 1)) * 5) := Lib.hid hd5
  have HW1 : Hid (w.drew.setCells g (0 + i * 5) news = W1) := by show _ = _; rw [Nat.zero_add]; exact hW1.symm
  have HFIN := Lib.hid hsp
  have HR0 := Lib.hid hr
  have HW1' := Lib.hid hW1
  have hiz : (i : Int) < (l.length : Int) := by omega
  have hic : (i : Int) + 1 ≤ (l.length : Int) := by omega
  have hne : ((i : Int) == (i : Int) + 1) = false := by simp; omega
  have e1 : ((i : Int) + 1).toNat = i + 1 := by omega
  have b1 : i ≤ cap := by omega
  have b6 : (0 : Int) ≤ (i : Int) + 1 := by omega
  have b2 : i + 1 ≤ l.length := by omega
  have b3 : i + 1 ≤ cap := by omega
  have b4 : l.length - 1 ≤ l.length := by omega
  have b5 : l.length ≤ cap := hcap
  have e2 : l.length - (i + 1) + i = l.length - 1 := by omega
  have e3 : i + (l.length - (i + 1)) = l.length - 1 := by omega
  have e4 : l.length - (l.length - 1) = 1 := by omega
  clear hr1 hsrc hone hspare hd5 hW1 hsp hr hget hnews hl5 hlen1
  go_enter Tryz.func119, Tryz.ntmps119
  go_wp2_with fail
  go_region_law (refine step_append_room rfl (.tmp 22) (.tmp 25) 49 rfl 91 i0 5 Tryz.underlying49 hi0 hz1 g 0 i cap (by simp [Act.eval, Act.put]) A (l.length - (i + 1)) (cap - (i + 1)) news (by simp [Act.eval, Act.put]) HNL.out HSRC.out HONE.out (by omega) HSP.out ?_; rw [HW1.out])
  go_wp2
  go_ret
  refine ⟨by first | rfl | (simp only [e2, e3]; rfl), ⟨sp', ?_⟩, fun h t cs hh hne2 => ?_, fun w0 hf hg => ?_⟩
  · have := row_setCells g _ zLt5 ((l.length - 1) * 5) _ _ HR1.out
    rw [HFIN.out] at this
    exact this
  · have h1 : RowAt W1 h t cs := by rw [HW1'.out]; exact row_setCells_ne g news (i * 5) _ (hh.keep (fdrew (frefl _))) hne2
    exact row_setCells_ne g zLt5 ((l.length - 1) * 5) _ h1 hne2
  · have h1 : Fresh w0 W1 := by rw [HW1'.out]; exact fresh_setCells g hg news (i * 5) _ (fstep hf (fdrew (frefl _)))
    exact fresh_setCells g hg zLt5 ((l.length - 1) * 5) _ h1
end Go.Proofs.YtmpdljcihiidaaaGreat
