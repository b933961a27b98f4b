/- Contracts: one light put into a row of the call's own, in the middle. -/
import Derived.Test.YteckjlkhopkogaaGreatIns
namespace Go.Proofs.YteckjlkhopkogaaGreat
open Go.RowKit Go.PlainAid Go.Lib Go.Shelf

theorem row_ownsL {w : World} {base size n g cap : Nat} {E : TypeId} {xs sp : List Value} (hb : base ≤ g) (hr : RowAt w g E (xs ++ sp)) (hn : n ≤ cap) (hc : cap ≤ maxLen) (hl : (xs ++ sp).length = cap * size) (hx : xs.length = n * size) : w.ownsRow base E size (.slice (some ⟨g, 0, none⟩) n cap) n xs :=
  ⟨hx, Or.inr ⟨g, cap, (xs ++ sp).toArray, rfl, hb, hr, hn, hc, by simpa using hl, by simp [← hx]⟩⟩
theorem owns_rowL {w : World} {base size n cap : Nat} {E : TypeId} {p : Option Addr} {xs : List Value} (h : w.ownsRow base E size (.slice p n cap) n xs) (hn : 0 < n) : ∃ g sp, p = some ⟨g, 0, none⟩ ∧ base ≤ g ∧ RowAt w g E (xs ++ sp) ∧ n ≤ cap ∧ cap ≤ maxLen ∧ (xs ++ sp).length = cap * size := by
  obtain ⟨h1, ⟨_, h2⟩ | ⟨g, c2, cur, hv, hb, hh, h3, h4, h5, h6⟩⟩ := h
  · omega
  · cases hv
    have e : cur.toList = xs ++ cur.toList.drop (n * size) := by rw [← h6, List.take_append_drop]
    refine ⟨g, cur.toList.drop (n * size), rfl, hb, ?_, h3, h4, ?_⟩
    · unfold RowAt; rw [hh, ← e]
    · rw [← e]; simpa using h5
theorem sizeLt : ∀ w, (Go.sizeOf 94).run Tryz.prog w = .ok 5 w := by
  obtain ⟨i0, hi, hz0, hz1, hz2⟩ := info_parts infoLt
  intro w
  simp [sizeOf, typeInfo, hi, hz1]
theorem sizeLt2 : (Tryz.prog.info? 94).map (·.size) = some 5 := by
  obtain ⟨i0, hi, hz0, hz1, hz2⟩ := info_parts infoLt
  rw [hi]; simp [hz1]
set_option maxHeartbeats 8000000 in
set_option maxRecDepth 100000 in
theorem sliceInsert_room (w0 w : World) (hf : Fresh w0 w) (g cap k : Nat) (l : List LL) (sp : List Value) (x : LL) (vb : Nat) (hg : w0.heap.size ≤ g) (hr : RowAt w g 94 (l.flatMap llC ++ sp)) (hlen : (l.flatMap llC ++ sp).length = cap * 5) (hvb : RowAt w vb 94 (llC x)) (hne : vb ≠ g) (hn : l.length ≤ 1024) (hk : k < l.length) (hroom : l.length + 1 ≤ cap) (hcm : cap ≤ maxLen) :
    Calls Tryz.prog 174 #[.slice (some ⟨g, 0, none⟩) l.length cap, .int .i64 (k : Int), .slice (some ⟨vb, 0, none⟩) 1 1] w (InsOut w0 w l k x) := by
  have hcm' : cap ≤ 9223372036854775807 := hcm
  have hl5 : (l.flatMap llC).length = l.length * 5 := flat_len llC 5 (fun _ => rfl) l
  have hd5 : ((l.drop k).flatMap llC).length = (l.length - k) * 5 := by rw [flat_len llC 5 (fun _ => rfl)]; simp
  have hov : ∀ lb cb, (callFunc 200 #[.slice (some ⟨vb, 0, none⟩) 1 1, .slice (some ⟨g, (k + 1) * 5, none⟩) lb cb]).run Tryz.prog w = .ok (.value (.bool false)) w := fun lb cb => by
    rw [run_callFunc_extern Tryz.func200 (by kernel_rfl) (by kernel_rfl) (by kernel_rfl) (e := Extern.SlicesOverlaps.overlaps #[36, 36] #[4]) (by kernel_rfl),
      Lib.run_overlaps_apart w 36 4 94 Tryz.underlying36 5 sizeLt ⟨vb, 0, none⟩ ⟨g, (k + 1) * 5, none⟩ 1 1 lb cb hne _ _ _ _ (shape_row hvb) (shape_row hr) (by rw [hlen]; omega) (hvb.frozen _) (hvb.frozen _)]
    rfl
  have hcp1 : ∀ ty dl dc sl sc, dl = l.length - k → l.length - k ≤ sl → (Builtin.copy_ #[36, 36] ty #[.slice (some ⟨g, (k + 1) * 5, none⟩) dl dc, .slice (some ⟨g, k * 5, none⟩) sl sc]).run Tryz.prog w.drew = .ok (goInt ((l.length - k : Nat) : Int)) (w.drew.setCells g ((k + 1) * 5) ((l.drop k).flatMap llC)) := fun ty dl dc sl sc h1 h2 => by
    have hrd := hr.keep (fdrew (frefl w))
    refine run_copy_k w.drew _ _ ty 94 5 g ((k + 1) * 5) dl dc ⟨g, k * 5, none⟩ sl sc _ Tryz.underlying36 sizeLt2 (l.length - k) (by simp only [Nat.min_def]; split <;> omega) hd5 (fun j v hj => ?_) (fun j hj => ?_) (fun j hj => hrd.frozen _) (fun v hv => ones_ll _ v hv)
    · have hlt : j < ((l.drop k).flatMap llC).length := by
        rcases Nat.lt_or_ge j ((l.drop k).flatMap llC).length with h' | h'
        · exact h'
        · rw [List.getElem?_eq_none h'] at hj; cases hj
      have e : l.flatMap llC = (l.take k).flatMap llC ++ (l.drop k).flatMap llC := by rw [← List.flatMap_append, List.take_append_drop]
      have ht5 : ((l.take k).flatMap llC).length = k * 5 := by rw [flat_len llC 5 (fun _ => rfl)]; simp; omega
      rw [Addr.add_lit]
      refine hrd.cell ?_
      rw [List.getElem?_append_left (by omega), e, List.getElem?_append_right (by omega), ht5, show k * 5 + j - k * 5 = j by omega]; exact hj
    · have hlt : (k + 1) * 5 + j < (l.flatMap llC ++ sp).length := by rw [hlen]; omega
      rw [hrd.cell (List.getElem?_eq_getElem hlt)]; rfl
  obtain ⟨W1, hW1⟩ : ∃ W1, W1 = w.drew.setCells g ((k + 1) * 5) ((l.drop k).flatMap llC) := ⟨_, rfl⟩
  have hr1 : RowAt W1 g 94 (spl (l.flatMap llC ++ sp) ((k + 1) * 5) ((l.drop k).flatMap llC)) := by rw [hW1]; exact row_setCells g _ _ _ _ _ (hr.keep (fdrew (frefl _)))
  have hv1 : RowAt W1 vb 94 (llC x) := by rw [hW1]; exact row_setCells_ne g _ _ _ (hvb.keep (fdrew (frefl _))) hne
  have hcp2 : ∀ ty dl dc, 1 ≤ dl → (Builtin.copy_ #[36, 36] ty #[.slice (some ⟨g, k * 5, none⟩) dl dc, .slice (some ⟨vb, 0, none⟩) 1 1]).run Tryz.prog W1 = .ok (goInt 1) (W1.setCells g (k * 5) (llC x)) := fun ty dl dc h1 => by
    refine run_copy_k W1 _ _ ty 94 5 g (k * 5) dl dc ⟨vb, 0, none⟩ 1 1 (llC x) Tryz.underlying36 sizeLt2 1 (by simp only [Nat.min_def]; split <;> omega) rfl (fun j v hj => ?_) (fun j hj => ?_) (fun j hj => hr1.frozen _) (one_lt x)
    · rw [Addr.add_lit, Nat.zero_add]; exact hv1.cell hj
    · have hj5 : j < 5 := hj
      have hlt : k * 5 + j < (spl (l.flatMap llC ++ sp) ((k + 1) * 5) ((l.drop k).flatMap llC)).length := by rw [spl_len, hlen]; omega
      rw [hr1.cell (List.getElem?_eq_getElem hlt)]; rfl
  rw [← hW1] at hcp1
  have ht5' : ((l.take k).flatMap llC).length = k * 5 := by rw [flat_len llC 5 (fun _ => rfl)]; simp; omega
  obtain ⟨sp', hins, hsl⟩ := ins_row (l := l) (x := x) (k := k) (cs := l.flatMap llC ++ sp) (by omega) (by rw [hlen]; omega) (fun t ht => by
    have e : l.flatMap llC = (l.take k).flatMap llC ++ (l.drop k).flatMap llC := by rw [← List.flatMap_append, List.take_append_drop]
    rw [List.getElem?_append_left (by omega), e, List.getElem?_append_left (by omega)])
  have hall : ((l.take k ++ x :: l.drop k).flatMap llC).length = (l.length + 1) * 5 := by rw [flat_len llC 5 (fun _ => rfl)]; simp; omega
  have HOUT : Hid (InsOut w0 w l k x (.returned (.slice (some ⟨g, 0, none⟩) (l.length + 1) cap)) (W1.setCells g (k * 5) (llC x))) := by
    refine ⟨_, _, rfl, ?_, ?_, fun h t cs hh hth => ?_⟩
    · refine row_ownsL hg (sp := sp') ?_ hroom hcm (by rw [List.length_append, hall, hsl, hlen]; omega) hall
      rw [← hins]
      exact row_setCells g _ _ _ _ _ hr1
    · refine fresh_setCells g hg _ _ _ ?_
      rw [hW1]
      exact fresh_setCells g hg _ _ _ (fstep hf (fdrew (frefl _)))
    · have hhg : h ≠ g := fun e => by subst e; exact hth (hh.inj hr).1
      refine row_setCells_ne g _ _ _ ?_ hhg
      rw [hW1]
      exact row_setCells_ne g _ _ _ (hh.keep (fdrew (frefl _))) hhg
  have HW1 := Lib.hid hW1
  have hz1 : (k : Int) ≤ (l.length : Int) := by omega
  have hz2 : ((k : Int) == (l.length : Int)) = false := by simp; omega
  have hz2' : ¬ k = l.length := by omega
  have hz3 : ¬ (cap : Int) < (l.length : Int) + 1 := by omega
  have hw1 : IntKind.i64.wrap ((l.length : Int) + 1) = (l.length : Int) + 1 := by rw [IntKind.wrap_i64] <;> omega
  have hw2 : IntKind.i64.wrap ((k : Int) + 1) = (k : Int) + 1 := by rw [IntKind.wrap_i64] <;> omega
  have hb0 : (0 : Int) ≤ (k : Int) + 1 := by omega
  have hb1 : (l.length : Int) + 1 ≤ (cap : Int) := by omega
  have hb2 : (0 : Int) ≤ (l.length : Int) + 1 := by omega
  have he1 : ((k : Int) + 1).toNat = k + 1 := by omega
  have he2 : ((l.length : Int) + 1).toNat = l.length + 1 := by omega
  have hb3 : k ≤ l.length + 1 := by omega
  have hb4 : k + 1 ≤ l.length + 1 := by omega
  have hb5 : k ≤ cap := by omega
  have hb6 : k + 1 ≤ cap := by omega
  have hb7 : ¬ cap = k := by omega
  have hb8 : ¬ cap = k + 1 := by omega
  have hb9 : (k : Int) + 1 ≤ (l.length : Int) + 1 := by omega
  have hb10 : (k : Int) ≤ (l.length : Int) + 1 := by omega
  have hb11 : k ≤ l.length := by omega
  have HCP1 := Lib.hid hcp1
  have HCP2 := Lib.hid hcp2
  have HOV := Lib.hid hov
  clear hcp1 hcp2 hov hr1 hv1 hW1 hins hsl hall hr hvb hlen hl5 hd5 ht5' hf
  have mixed : Tryz.prog.follows .mixedOrders = true := by kernel_rfl
  go_enter Tryz.func174, Tryz.ntmps174
  go_wp2_with (simp only [HOV.out])
  go_region_law_o (refine step_copy_runI rfl _ _ 36 36 rfl (.slice (some ⟨g, (k + 1) * 5, none⟩) (l.length - k) (cap - (k + 1))) (.slice (some ⟨g, k * 5, none⟩) (l.length + 1 - k) (cap - k)) (by simp [Act.eval, Act.put]) (by simp [Act.eval, Act.put]) (HCP1.out _ _ _ _ _ rfl (by omega)) ?_)
  have HC2 : ∀ ty, (Builtin.copy_ #[36, 36] ty #[.slice (some ⟨g, k * 5, none⟩) (l.length + 1 - k) (cap - k), .slice (some ⟨vb, 0, none⟩) 1 1]).run Tryz.prog W1 = .ok (goInt 1) (W1.setCells g (k * 5) (llC x)) := fun ty => HCP2.out ty _ _ (by omega)
  go_wp2_with (simp only [HC2])
  go_ret
  exact HOUT.out
end Go.Proofs.YteckjlkhopkogaaGreat
