/- Contracts: one light put into a row of the call's own (slices.Insert). -/
import Derived.Test.YteckjlkhopkogaaGreatMvP
import Derived.Shelf.Spec.SlicesInsert
import Derived.Lib.AppendZerosOnto
import Derived.Laws.NewBlocks
import Derived.Laws.IdiomCopy
namespace Go.Proofs.YteckjlkhopkogaaGreat
open Go.RowKit Go.PlainAid Go.Lib Go.Shelf

/-- 'copy' at elements of several cells. -/
theorem run_copy_k (w : World) (dT sT ty elem : TypeId) (size b o dLen dCap : Nat) (a : Addr) (sLen sCap : Nat) (cs : List Value)
    (hu : Tryz.prog.underlying dT = some (.slice elem)) (hs : (Tryz.prog.info? elem).map (·.size) = some size) (m : Nat) (hm : m = Nat.min sLen dLen) (hn : cs.length = m * size)
    (hsrc : ∀ j v, cs[j]? = some v → w.cell? (a.add j) = some v) (hc : ∀ j, j < cs.length → (w.cell? ⟨b, o + j, none⟩).isSome = true) (hf : ∀ j, j < cs.length → w.frozen? ⟨b, o + j, none⟩ = false) (h1 : ∀ v ∈ cs, v.oneCell' = true) :
    (Builtin.copy_ #[dT, sT] ty #[.slice (some ⟨b, o, none⟩) dLen dCap, .slice (some a) sLen sCap]).run Tryz.prog w = .ok (goInt m) (w.setCells b o cs) := by
  have hl := run_firstCells_some (P := Tryz.prog) w size m a sLen sCap cs hn hsrc
  have hst := run_storeCells_cells (P := Tryz.prog) b o cs 0 w (by simpa using hc) (by simpa using hf) h1
  simp only [Nat.add_zero] at hst
  cases hq : Tryz.prog.info? elem with
  | none => simp [hq] at hs
  | some i =>
    have hi : i.size = size := by simpa [hq] using hs
    simp [Builtin.copy_, run_underlying hu, Builtin.lenOf, sizeOf, typeInfo, hq, hi, ← hm, hl, hst]
/-- What a row holds when one light stands in it at k, the others behind. -/
theorem ins_row {l : List LL} {x : LL} {k : Nat} {cs : List Value} (hk : k ≤ l.length) (hcs : (l.length + 1) * 5 ≤ cs.length) (hlo : ∀ t, t < k * 5 → cs[t]? = ((l.take k).flatMap llC)[t]?) :
    ∃ sp', spl (spl cs ((k + 1) * 5) ((l.drop k).flatMap llC)) (k * 5) (llC x) = (l.take k ++ x :: l.drop k).flatMap llC ++ sp' ∧ sp'.length = cs.length - (l.length + 1) * 5 := by
  have ht5 : ((l.take k).flatMap llC).length = k * 5 := by rw [flat_len llC 5 (fun _ => rfl)]; simp; omega
  have hd5 : ((l.drop k).flatMap llC).length = (l.length - k) * 5 := by rw [flat_len llC 5 (fun _ => rfl)]; simp
  have hx5 : (llC x).length = 5 := rfl
  have hall : ((l.take k ++ x :: l.drop k).flatMap llC).length = (l.length + 1) * 5 := by rw [flat_len llC 5 (fun _ => rfl)]; simp; omega
  have e0 : (l.take k ++ x :: l.drop k).flatMap llC = (l.take k).flatMap llC ++ (llC x ++ (l.drop k).flatMap llC) := by rw [List.flatMap_append, List.flatMap_cons]
  refine ⟨(spl (spl cs ((k + 1) * 5) ((l.drop k).flatMap llC)) (k * 5) (llC x)).drop ((l.length + 1) * 5), ?_, by simp [spl_len]⟩
  apply List.ext_getElem?
  intro t
  rcases Nat.lt_or_ge t ((l.length + 1) * 5) with h | h
  · rw [List.getElem?_append_left (by omega), e0]
    rw [show ((l.take k).flatMap llC ++ (llC x ++ (l.drop k).flatMap llC))[t]? = ((l.take k).flatMap llC ++ (llC x ++ ((l.drop k).flatMap llC ++ [])))[t]? by simp]
    rw [get3 ht5 hx5]
    rcases Nat.lt_or_ge t (k * 5) with h1 | h1
    · rw [if_pos h1, spl_out _ _ _ _ (Or.inl h1), spl_out _ _ _ _ (Or.inl (by omega))]
      exact hlo t h1
    · rcases Nat.lt_or_ge t (k * 5 + 5) with h2 | h2
      · rw [if_neg (by omega), if_pos h2]
        have := spl_in (llC x) (k * 5) (spl cs ((k + 1) * 5) ((l.drop k).flatMap llC)) (t - k * 5) (by omega) (by rw [spl_len]; omega)
        rw [show k * 5 + (t - k * 5) = t by omega] at this
        exact this
      · rw [if_neg (by omega), if_neg (by omega), spl_out _ _ _ _ (Or.inr (by omega)), List.append_nil]
        have := spl_in ((l.drop k).flatMap llC) ((k + 1) * 5) cs (t - (k + 1) * 5) (by omega) (by omega)
        rw [show (k + 1) * 5 + (t - (k + 1) * 5) = t by omega] at this
        rw [this]
        congr 1
        omega
  · rw [List.getElem?_append_right (by omega), hall, List.getElem?_drop]
    congr 1; omega
/-- The same, where the light is laid first. -/
theorem spl_swap {cs us vs : List Value} {a b : Nat} (hab : a + us.length ≤ b) (hb : b + vs.length ≤ cs.length) : spl (spl cs a us) b vs = spl (spl cs b vs) a us := by
  apply List.ext_getElem?
  intro t
  rcases Nat.lt_or_ge t a with h | h
  · rw [spl_out _ _ _ _ (Or.inl (by omega)), spl_out _ _ _ _ (Or.inl h), spl_out _ _ _ _ (Or.inl h), spl_out _ _ _ _ (Or.inl (by omega))]
  · rcases Nat.lt_or_ge t (a + us.length) with h1 | h1
    · have e1 := spl_in us a cs (t - a) (by omega) (by omega)
      have e2 := spl_in us a (spl cs b vs) (t - a) (by omega) (by rw [spl_len]; omega)
      rw [show a + (t - a) = t by omega] at e1 e2
      rw [spl_out _ _ _ _ (Or.inl (by omega)), e1, e2]
    · rcases Nat.lt_or_ge t b with h2 | h2
      · rw [spl_out _ _ _ _ (Or.inl h2), spl_out _ _ _ _ (Or.inr h1), spl_out _ _ _ _ (Or.inr h1), spl_out _ _ _ _ (Or.inl h2)]
      · rcases Nat.lt_or_ge t (b + vs.length) with h3 | h3
        · have e1 := spl_in vs b cs (t - b) (by omega) (by omega)
          have e2 := spl_in vs b (spl cs a us) (t - b) (by omega) (by rw [spl_len]; omega)
          rw [show b + (t - b) = t by omega] at e1 e2
          rw [e2, spl_out _ _ _ _ (Or.inr h1), e1]
        · rw [spl_out _ _ _ _ (Or.inr h3), spl_out _ _ _ _ (Or.inr h1), spl_out _ _ _ _ (Or.inr h1), spl_out _ _ _ _ (Or.inr h3)]
theorem cells_setCells {g : Nat} (vs : List Value) (o : Nat) (w : World) {h : Nat} {t : TypeId} {cs : List Value} (hr : RowAt w h t cs) (hne : h ≠ g) : RowAt (w.setCells g o vs) h t cs := row_setCells_ne g vs o w hr hne
/-- What is handed back. -/
def InsOut (w0 w : World) (l : List LL) (k : Nat) (x : LL) (e : Ending) (w' : World) : Prop := ∃ q' c', e = .returned (.slice q' (l.length + 1) c') ∧ w'.ownsRow w0.heap.size 94 5 (.slice q' (l.length + 1) c') (l.length + 1) ((l.take k ++ x :: l.drop k).flatMap llC) ∧ Fresh w0 w' ∧ ∀ g t cs, RowAt w g t cs → t ≠ 94 → RowAt w' g t cs
theorem shape_row {w : World} {g : Nat} {t : TypeId} {cs : List Value} (h : RowAt w g t cs) : w.shape? g = some (t, cs.length) := by
  unfold RowAt at h
  simp [World.shape?, h]
set_option maxHeartbeats 4000000 in
set_option maxRecDepth 100000 in
theorem sliceInsert_end (w0 w : World) (hf : Fresh w0 w) (q : Option Addr) (cap : Nat) (l : List LL) (x : LL) (vb : Nat) (hown : w.ownsRow w0.heap.size 94 5 (.slice q l.length cap) l.length (l.flatMap llC)) (hvb : RowAt w vb 94 (llC x)) (hn : l.length ≤ 1024) :
    Calls Tryz.prog 174 #[.slice q l.length cap, .int .i64 (l.length : Int), .slice (some ⟨vb, 0, none⟩) 1 1] w (InsOut w0 w l l.length x) := by
  have HO := Lib.hid hown
  have HV := Lib.hid hvb
  have HF := Lib.hid hf
  obtain ⟨p', c', hqc, hol, hcl1, hcl2⟩ := owns_cap hown
  cases hqc
  clear hown hvb hf hol
  have b1 : (l.length : Int) ≤ (l.length : Int) := by omega
  have HX : Hid ((llC x).length = 1 * 5) := rfl
  go_enter Tryz.func174, Tryz.ntmps174
  cases q with
  | none =>
    go_wp2_with (at_builtin; refine wpList_app_many Tryz.underlying36 infoLt rfl (by decide) (by decide) w0 w _ l.length (l.flatMap llC) (some ⟨vb, 0, none⟩) 1 1 (llC x) HX.out (one_lt x) rfl _ _ rfl rfl HO.out rfl HV.out.cells (by omega) (by decide) HF.out ?_; intro v' w' hown3 hf3 hk3)
    obtain ⟨q', c2, rfl, _, _, _⟩ := owns_cap hown3
    have HO3 := Lib.hid hown3
    have HF3 := Lib.hid hf3
    have HK3 := Lib.hid hk3
    clear hown3 hf3 hk3
    go_wp2
    go_ret
    refine ⟨q', c2, by first | rfl | done, ?_, HF3.out, HK3.out⟩
    rw [List.take_length, List.drop_length, List.flatMap_append, List.flatMap_cons, List.flatMap_nil, List.append_nil]
    exact HO3.out
  | some a =>
    obtain ⟨ab, ao, asp⟩ := a
    go_wp2_with (at_builtin; refine wpList_app_many Tryz.underlying36 infoLt rfl (by decide) (by decide) w0 w _ l.length (l.flatMap llC) (some ⟨vb, 0, none⟩) 1 1 (llC x) HX.out (one_lt x) rfl _ _ rfl rfl HO.out rfl HV.out.cells (by omega) (by decide) HF.out ?_; intro v' w' hown3 hf3 hk3)
    all_goals (
      obtain ⟨q', c2, rfl, _, _, _⟩ := owns_cap hown3
      have HO3 := Lib.hid hown3
      have HF3 := Lib.hid hf3
      have HK3 := Lib.hid hk3
      clear hown3 hf3 hk3
      go_wp2
      go_ret
      refine ⟨q', c2, by first | rfl | done, ?_, HF3.out, HK3.out⟩
      rw [List.take_length, List.drop_length, List.flatMap_append, List.flatMap_cons, List.flatMap_nil, List.append_nil]
      exact HO3.out)
end Go.Proofs.YteckjlkhopkogaaGreat
