/- Contracts: one light put into a row of the call's own, where there is no room; the whole of slices.Insert. -/
import Derived.Test.YtgiinjleehgkoaaGreatIns2
namespace Go.Proofs.YtgiinjleehgkoaaGreat
open Go.RowKit Go.PlainAid Go.Lib Go.Shelf

set_option maxHeartbeats 8000000 in
set_option maxRecDepth 100000 in
theorem sliceInsert_grow (w0 w : World) (hf : Fresh w0 w) (g cap k : Nat) (l : List LL) (sp : List Value) (x : LL) (vb : Nat) (hr : RowAt w g 69 (l.flatMap llC ++ sp)) (hvb : RowAt w vb 69 (llC x)) (hn : l.length ≤ 1024) (hk : k < l.length) (hnc : l.length ≤ cap) (hroom : cap < l.length + 1) :
    Calls Tryz.prog 88 #[.slice (some ⟨g, 0, none⟩) l.length cap, .int .i64 (k : Int), .slice (some ⟨vb, 0, none⟩) 1 1] w (InsOut w0 w l k x) := by
  have hl5 : (l.flatMap llC).length = l.length * 5 := flat_len llC 5 (fun _ => rfl) l
  have hd5 : ((l.drop k).flatMap llC).length = (l.length - k) * 5 := by rw [flat_len llC 5 (fun _ => rfl)]; simp
  have ht5 : ((l.take k).flatMap llC).length = k * 5 := by rw [flat_len llC 5 (fun _ => rfl)]; simp; omega
  have esplit : l.flatMap llC = (l.take k).flatMap llC ++ (l.drop k).flatMap llC := by rw [← List.flatMap_append, List.take_append_drop]
  have hgw : g < w.heap.size := hr.lt
  have hvw : vb < w.heap.size := hvb.lt
  obtain ⟨i0, hi0, hz0, hzs, hzb⟩ := info_parts infoLt
  have hrd := hr.keep (fdrew (frefl w))
  have hold : (Builtin.firstCells i0.size k (.slice (some ⟨g, 0, none⟩) k cap)).run Tryz.prog w.drew = .ok ((l.take k).flatMap llC).toArray w.drew := by
    rw [hzs]
    refine run_firstCells_some w.drew 5 k ⟨g, 0, none⟩ k cap _ ht5 fun j v hj => ?_
    rw [Addr.add_lit, Nat.zero_add]
    refine hrd.cell ?_
    have hlt : j < ((l.take k).flatMap llC).length := by
      rcases Nat.lt_or_ge j ((l.take k).flatMap llC).length with h' | h'
      · exact h'
      · rw [List.getElem?_eq_none h'] at hj; cases hj
    rw [List.getElem?_append_left (by omega), esplit, List.getElem?_append_left hlt]; exact hj
  obtain ⟨kk, hkk⟩ : ∃ q, q = l.length + 1 - k := ⟨_, rfl⟩
  have hik : k + kk = l.length + 1 := by omega
  have hrz := fun ty => Lib.run_append_grow_zeros (P := Tryz.prog) w 39 3 ty 69 i0 _ .i64 .i64 Tryz.underlying39 Tryz.underlying3 hi0 hz0 (some ⟨g, 0, none⟩) k cap ((l.take k).flatMap llC) hold kk (by omega) (by rw [hzs]; decide) (by omega) (by omega) (by rw [hzb]; omega) (by rw [hzb, hik]; exact growslice_fits hroom (by omega))
  rw [hik] at hrz
  obtain ⟨G, hG⟩ : ∃ G, G = grownCap w (l.length + 1) cap 69 := ⟨_, rfl⟩
  have hGn : l.length + 1 ≤ G := by rw [hG]; exact grownCap_ge w _ _ _
  have hG63 : G ≤ maxLen := by rw [hG]; exact grownCap_le_maxLen w (l.length + 1) cap 69 (by unfold maxLen; omega)
  rw [← hG] at hrz
  obtain ⟨ROW, hROW⟩ : ∃ ROW : List Value, ROW = (((l.take k).flatMap llC).toArray ++ Builtin.zeroCells (Value.agg #[iv 0, iv 0, .slice none 0 0, iv 0, iv 0]).cells kk ++ Builtin.zeroCells (Value.agg #[iv 0, iv 0, .slice none 0 0, iv 0, iv 0]).cells (G - (l.length + 1))).toList := ⟨_, rfl⟩
  have hRt : ROW.toArray = ((l.take k).flatMap llC).toArray ++ Builtin.zeroCells (Value.agg #[iv 0, iv 0, .slice none 0 0, iv 0, iv 0]).cells kk ++ Builtin.zeroCells (Value.agg #[iv 0, iv 0, .slice none 0 0, iv 0, iv 0]).cells (G - (l.length + 1)) := by rw [hROW]
  have hRl : ROW.length = G * 5 := by
    rw [hROW]
    simp [Builtin.zeroCells, Value.cells, ht5]
    have := congrArg List.length (rfl : (l.take k).flatMap llC = (l.take k).flatMap llC)
    omega
  have hRlo : ∀ t, t < k * 5 → ROW[t]? = ((l.take k).flatMap llC)[t]? := fun t ht => by
    rw [hROW]
    simp only [Array.toList_append, List.append_assoc]
    rw [List.getElem?_append_left (by simpa [ht5] using ht)]
  rw [← hRt] at hrz
  obtain ⟨W1, hW1⟩ : ∃ W1, W1 = w.drew.alloc (.cells ROW.toArray 69) := ⟨_, rfl⟩
  rw [← hW1] at hrz
  have hN : RowAt W1 w.heap.size 69 ROW := by rw [hW1]; exact RowAt.new w.drew _ _
  have hf1 : Fresh w W1 := by rw [hW1]; exact fnew (fdrew (frefl _)) _
  have hr1 := hr.keep hf1
  have hv1 := hvb.keep hf1
  have hcpA : ∀ W, RowAt W w.heap.size 69 ROW → RowAt W vb 69 (llC x) → ∀ ty dl dc, 1 ≤ dl → (Builtin.copy_ #[39, 39] ty #[.slice (some ⟨w.heap.size, k * 5, none⟩) dl dc, .slice (some ⟨vb, 0, none⟩) 1 1]).run Tryz.prog W = .ok (goInt 1) (W.setCells w.heap.size (k * 5) (llC x)) := fun W hN hv1 ty dl dc h1 => by
    refine run_copy_k W _ 39 ty 69 5 w.heap.size (k * 5) dl dc ⟨vb, 0, none⟩ 1 1 (llC x) Tryz.underlying39 sizeLt2 1 (by simp only [Nat.min_def]; split <;> omega) rfl (fun j v hj => ?_) (fun j hj => ?_) (fun j hj => hN.frozen _) (one_lt x)
    · rw [Addr.add_lit, Nat.zero_add]; exact hv1.cell hj
    · have hj5 : j < 5 := hj
      have hlt : k * 5 + j < ROW.length := by omega
      rw [hN.cell (List.getElem?_eq_getElem hlt)]; rfl
  obtain ⟨W2, hW2⟩ : ∃ W2, W2 = W1.setCells w.heap.size (k * 5) (llC x) := ⟨_, rfl⟩
  have hN2 : RowAt W2 w.heap.size 69 (spl ROW (k * 5) (llC x)) := by rw [hW2]; exact row_setCells _ _ _ _ _ _ hN
  have hr2 : RowAt W2 g 69 (l.flatMap llC ++ sp) := by rw [hW2]; exact row_setCells_ne _ _ _ _ hr1 (by omega)
  have hcpB : ∀ ty dl dc sl sc, dl = l.length - k → l.length - k ≤ sl → (Builtin.copy_ #[39, 39] ty #[.slice (some ⟨w.heap.size, (k + 1) * 5, none⟩) dl dc, .slice (some ⟨g, k * 5, none⟩) sl sc]).run Tryz.prog W2.drew = .ok (goInt ((l.length - k : Nat) : Int)) (W2.drew.setCells w.heap.size ((k + 1) * 5) ((l.drop k).flatMap llC)) := fun ty dl dc sl sc h1 h2 => by
    have hNd := hN2.keep (fdrew (frefl W2))
    have hrd2 := hr2.keep (fdrew (frefl W2))
    refine run_copy_k W2.drew _ 39 ty 69 5 w.heap.size ((k + 1) * 5) dl dc ⟨g, k * 5, none⟩ sl sc _ Tryz.underlying39 sizeLt2 (l.length - k) (by simp only [Nat.min_def]; split <;> omega) hd5 (fun j v hj => ?_) (fun j hj => ?_) (fun j hj => hNd.frozen _) (fun v hv => ones_ll _ v hv)
    · have hlt : j < ((l.drop k).flatMap llC).length := by
        rcases Nat.lt_or_ge j ((l.drop k).flatMap llC).length with h' | h'
        · exact h'
        · rw [List.getElem?_eq_none h'] at hj; cases hj
      rw [Addr.add_lit]
      refine hrd2.cell ?_
      rw [List.getElem?_append_left (by omega), esplit, List.getElem?_append_right (by omega), ht5, show k * 5 + j - k * 5 = j by omega]; exact hj
    · have hlt : (k + 1) * 5 + j < (spl ROW (k * 5) (llC x)).length := by rw [spl_len]; omega
      rw [hNd.cell (List.getElem?_eq_getElem hlt)]; rfl
  obtain ⟨sp', hins, hsl⟩ := ins_row (l := l) (x := x) (k := k) (cs := ROW) (by omega) (by omega) hRlo
  have hall : ((l.take k ++ x :: l.drop k).flatMap llC).length = (l.length + 1) * 5 := by rw [flat_len llC 5 (fun _ => rfl)]; simp; omega
  have HOUT : Hid (InsOut w0 w l k x (.returned (.slice (some ⟨w.heap.size, 0, none⟩) (l.length + 1) G)) (W2.drew.setCells w.heap.size ((k + 1) * 5) ((l.drop k).flatMap llC))) := by
    refine ⟨_, _, rfl, ?_, ?_, fun h t cs hh hth => ?_⟩
    · refine row_ownsL hf.size (sp := sp') ?_ hGn hG63 (by rw [List.length_append, hall, hsl]; omega) hall
      rw [← hins, ← spl_swap (by show k * 5 + 5 ≤ _; omega) (by omega)]
      exact row_setCells _ _ _ _ _ _ (hN2.keep (fdrew (frefl _)))
    · refine fresh_setCells _ hf.size _ _ _ (fstep ?_ (fdrew (frefl _)))
      rw [hW2]
      exact fresh_setCells _ hf.size _ _ _ (fstep hf hf1)
    · have hhw : h ≠ w.heap.size := by have := hh.lt; omega
      refine row_setCells_ne _ _ _ _ (RowAt.keep ?_ (fdrew (frefl _))) hhw
      rw [hW2]
      exact row_setCells_ne _ _ _ _ (hh.keep hf1) hhw
  have HRZ := Lib.hid hrz
  have HCA := Lib.hid (hcpA W1 hN hv1)
  have HCB := Lib.hid hcpB
  have HW2 := Lib.hid hW2
  have hz1 : (k : Int) ≤ (l.length : Int) := by omega
  have hz2 : ((k : Int) == (l.length : Int)) = false := by simp; omega
  have hz2' : ¬ k = l.length := by omega
  have hz3 : (cap : Int) < (l.length : Int) + 1 := by omega
  have hw1 : IntKind.i64.wrap ((l.length : Int) + 1) = (l.length : Int) + 1 := by rw [IntKind.wrap_i64] <;> omega
  have hw2 : IntKind.i64.wrap ((k : Int) + 1) = (k : Int) + 1 := by rw [IntKind.wrap_i64] <;> omega
  have hw3 : IntKind.i64.wrap ((l.length : Int) + 1 - (k : Int)) = (kk : Int) := by rw [IntKind.wrap_i64] <;> omega
  have hb0 : (0 : Int) ≤ (k : Int) + 1 := by omega
  have he1 : ((k : Int) + 1).toNat = k + 1 := by omega
  have hb3 : k ≤ l.length + 1 := by omega
  have hb4 : k + 1 ≤ l.length + 1 := by omega
  have hb5 : k ≤ cap := by omega
  have hb7 : ¬ cap = k := by omega
  have hb8 : ¬ G = k + 1 := by omega
  have hb12 : ¬ G = k := by omega
  have hb13 : k ≤ G := by omega
  have hb14 : k + 1 ≤ G := by omega
  have hb9 : (k : Int) + 1 ≤ (l.length : Int) + 1 := by omega
  have hb10 : (k : Int) ≤ (l.length : Int) + 1 := by omega
  have hb11 : k ≤ l.length := by omega
  have hb15 : (k : Int) ≤ (cap : Int) := by omega
  have mixed : Tryz.prog.follows .mixedOrders = true := by kernel_rfl
  clear hrz hcpA hcpB hN hN2 hr1 hv1 hr2 hW1 hW2 hins hsl hall hr hvb hl5 hd5 ht5 hf hf1 hrd hold hi0 hz0 hzs hzb esplit hROW hRt hRl hRlo hG hG63 hik hkk
  go_enter Tryz.func88, Tryz.ntmps88
  have HA9 : ∀ ty, (Builtin.copy_ #[39, 39] ty #[.slice (some ⟨w.heap.size, k * 5, none⟩) (l.length + 1 - k) (G - k), .slice (some ⟨vb, 0, none⟩) 1 1]).run Tryz.prog W1 = .ok (goInt 1) (W1.setCells w.heap.size (k * 5) (llC x)) := fun ty => HCA.out ty _ _ (by omega)
  rw [← HW2.out] at HA9
  go_wp2_with (first | (at_builtin; refine Lib.wpList_append_run _ rfl _ _ _ _ rfl _ _ rfl rfl _ _ (HRZ.out _) ?_) | (simp only [HA9]))
  go_region_law_o (refine step_copy_runI rfl _ _ 39 39 rfl (.slice (some ⟨w.heap.size, (k + 1) * 5, none⟩) (l.length - k) (G - (k + 1))) (.slice (some ⟨g, k * 5, none⟩) (l.length - k) (cap - k)) (by simp [Act.eval, Act.put]) (by simp [Act.eval, Act.put]) (HCB.out _ _ _ _ _ rfl (by omega)) ?_)
  go_wp2
  go_ret
  exact HOUT.out
theorem sliceInsert_any (w0 w : World) (hf : Fresh w0 w) (q : Option Addr) (cap : Nat) (l : List LL) (k : Nat) (x : LL) (vb : Nat) (hown : w.ownsRow w0.heap.size 69 5 (.slice q l.length cap) l.length (l.flatMap llC)) (hvb : RowAt w vb 69 (llC x)) (hne : ∀ o, q ≠ some ⟨vb, o, none⟩) (hn : l.length ≤ 1024) (hk : k ≤ l.length) :
    Calls Tryz.prog 88 #[.slice q l.length cap, .int .i64 (k : Int), .slice (some ⟨vb, 0, none⟩) 1 1] w (InsOut w0 w l k x) := by
  rcases Nat.eq_or_lt_of_le hk with rfl | hk
  · exact sliceInsert_end w0 w hf q cap l x vb hown hvb hn
  · obtain ⟨g, sp, rfl, hg, hr, hnc, hcm, hlen⟩ := owns_rowL hown (by omega)
    by_cases hroom : l.length + 1 ≤ cap
    · exact sliceInsert_room w0 w hf g cap k l sp x vb hg hr hlen hvb (fun e => hne 0 (by rw [e])) hn hk hroom hcm
    · exact sliceInsert_grow w0 w hf g cap k l sp x vb hr hvb hn hk hnc (by omega)
end Go.Proofs.YtgiinjleehgkoaaGreat
