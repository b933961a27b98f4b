/- Contracts: drawn formats. (Printed by gen_fmd.py.) -/
import Derived.Test.YtnhjacaiggghnaaCur
import Derived.Test.YtnhjacaiggghnaaFmt
import Derived.ArgAppend
namespace Go.Proofs.Ytnhjacaiggghnaa
open Go.RowKit

/-- The cells from a place on are numbers. -/
def AllI (cs : List Value) (off n : Nat) : Prop := ∀ j, j < n * 2 → ∃ a : Int, cs[off + j]? = some (iv a)
theorem AllI.set {cs : List Value} {off n : Nat} (h : AllI cs off n) (k : Nat) (a : Int) : AllI (cs.set k (iv a)) off n := by
  intro j hj
  obtain ⟨b, hb⟩ := h j hj
  rw [List.getElem?_set]
  split
  · rename_i e
    have hlt := (List.getElem?_eq_some_iff.1 hb).1
    rw [if_pos (by omega)]; exact ⟨a, rfl⟩
  · exact ⟨b, hb⟩
theorem AllI.less {cs : List Value} {off n m : Nat} (h : AllI cs off n) (hm : m ≤ n) : AllI cs off m := fun j hj => h j (by omega)
theorem allI_pairs {cs : List Value} {off : Nat} : ∀ {n : Nat}, AllI cs off n → ∃ L : List (Int × Int), L.length = n ∧ ∀ j v, (pcs L)[j]? = some v → cs[off + j]? = some v := by
  intro n
  induction n with
  | zero => intro _; exact ⟨[], rfl, fun j v h => by simp [pcs] at h⟩
  | succ n ih =>
    intro h
    obtain ⟨L, hl, hv⟩ := ih (h.less (by omega))
    obtain ⟨a, ha⟩ := h (n * 2) (by omega)
    obtain ⟨b, hb⟩ := h (n * 2 + 1) (by omega)
    refine ⟨L ++ [(a, b)], by simp [hl], fun j v hj => ?_⟩
    rw [pcs_app] at hj
    have hpl := pcs_len L
    rcases Nat.lt_or_ge j (pcs L).length with h1 | h1
    · rw [List.getElem?_append_left h1] at hj; exact hv j v hj
    · rw [List.getElem?_append_right h1] at hj
      have hj2 : j - (pcs L).length < 2 := by
        have := (List.getElem?_eq_some_iff.1 hj).1
        simpa [pcs, pc] using this
      rcases (show j = n * 2 ∨ j = n * 2 + 1 by omega) with e | e
      · rw [e, show n * 2 - (pcs L).length = 0 by omega] at hj
        simp [pcs, pc] at hj
        rw [e, ← hj]; exact ha
      · rw [e, show n * 2 + 1 - (pcs L).length = 1 by omega] at hj
        simp [pcs, pc] at hj
        rw [e, ← hj]; exact hb
/-- A slice of formats that lies apart from the cursor. -/
def FmAt (w : World) (r : Nat) (v : Value) : Prop := ∃ (g o n c : Nat) (cs : List Value), v = .slice (some ⟨g, o, none⟩) n c ∧ g ≠ r ∧ n ≤ 16 ∧ RowAt w g 55 cs ∧ AllI cs o n
theorem FmAt.keep {w w' : World} {r : Nat} {v : Value} (h : FmAt w r v) (hb : Fresh w w') : FmAt w' r v := by
  obtain ⟨g, o, n, c, cs, h1, h2, h3, h4, h5⟩ := h
  exact ⟨g, o, n, c, cs, h1, h2, h3, h4.keep hb, h5⟩
theorem FmAt.grown {w w' : World} {r : Nat} {v : Value} (h : FmAt w r v) (k : w.grownBy w' (some r)) : FmAt w' r v := by
  obtain ⟨g, o, n, c, cs, h1, h2, h3, h4, h5⟩ := h
  exact ⟨g, o, n, c, cs, h1, h2, h3, h4.grown k h2, h5⟩
theorem FmAt.prs {w : World} {r : Nat} {v : Value} (h : FmAt w r v) : ∃ q c, ∃ L : List (Int × Int), v = .slice q L.length c ∧ Prs w q L ∧ L.length ≤ 16 := by
  obtain ⟨g, o, n, c, cs, rfl, _, h3, h4, h5⟩ := h
  obtain ⟨L, rfl, hv⟩ := allI_pairs h5
  exact ⟨_, c, L, rfl, Or.inr ⟨g, o, rfl, fun j v hj => h4.cell (hv j v hj)⟩, h3⟩
theorem grownNone {a b : World} (h : a.grownBy b none) (r : Option Nat) : a.grownBy b r := ⟨h.os, h.tape, h.output, h.size, fun i hi _ => h.block i hi (by simp)⟩
theorem grownOwn {w a b : World} {r g : Nat} (h : w.grownBy a (some r)) (k : a.grownBy b (some g)) (hg : w.heap.size ≤ g) : w.grownBy b (some r) :=
  ⟨k.os.trans h.os, k.tape.trans h.tape, k.output.trans h.output, Nat.le_trans h.size k.size, fun i hi hn => (k.block i (Nat.lt_of_lt_of_le hi h.size) (fun e => by cases e; omega)).trans (h.block i hi hn)⟩
theorem Cur.grown {a b : World} {r g : Nat} {cv : Value} {n : Int} (h : Cur a r cv n) (k : a.grownBy b (some g)) (hne : r ≠ g) : Cur b r cv n := by
  obtain ⟨s, hs⟩ := h; exact ⟨s, hs.grown k hne⟩
set_option maxHeartbeats 1000000 in
theorem wpList_app_fm {ops : Array Oper} {rest : List Oper} {o : Oper} {a : Act} {Q : Exit → Act → World → Prop} (base : Nat) (w1 : World) (g off n cap : Nat) (cs : List Value) (x y : Int) (hgd : o.guard = none) (s t : Operand)
    (ho : o.op = .call { callee := .builtin .append, args := #[s, t], argTypes := #[24, 24] }) (hs : a.eval s = .slice (some ⟨g, off, none⟩) n cap) (hr : RowAt w1 g 55 cs) (hI : AllI cs off n) (hl : off + cap * 2 ≤ cs.length) (hn : n ≤ cap) (h7 : n ≤ 1000)
    (hx : a.eval t = .slice (some ⟨w1.heap.size, 0, none⟩) 1 1) (hb : base ≤ w1.heap.size) (hbg : base ≤ g)
    (h : ∀ g' off' cap' cs' w', RowAt w' g' 55 cs' → AllI cs' off' (n + 1) → off' + cap' * 2 ≤ cs'.length → n + 1 ≤ cap' → base ≤ g' → (g' = g ∨ w1.heap.size ≤ g') → w1.grownBy w' (some g) → wpList Try.prog ops Q rest (a.put o.dst (.slice (some ⟨g', off', none⟩) (n + 1) cap')) w') :
    wpList Try.prog ops Q (o :: rest) a (w1.alloc (.cells #[.int .i64 x, .int .i64 y] 55)) := by
  obtain ⟨i0, hi, hz0, hz1, hz2⟩ := info_parts infoFmt
  have hra := hr.alloc (.cells #[.int .i64 x, .int .i64 y] 55)
  have hat : ∀ j u, ((cs.drop off).take (n * 2))[j]? = some u → j < n * 2 ∧ cs[off + j]? = some u := by
    intro j u hj
    rw [List.getElem?_take] at hj
    split at hj
    · rename_i hlt
      rw [List.getElem?_drop] at hj
      exact ⟨hlt, hj⟩
    · cases hj
  refine wpList_append_arg _ hgd s t 24 ho 55 i0 (.agg #[.int .i64 0, .int .i64 0]) 2 16 Try.underlying24 hi hz0 hz1 hz2 rfl (by decide) g off n cap ((cs.drop off).take (n * 2)) hs
    (by rw [List.length_take, List.length_drop]; omega) (fun j u hj => hra.cell (hat j u hj).2) ⟨w1.heap.size, 0, none⟩ 1 1 [iv x, iv y] hx rfl (cell_two_new _ _ _ _)
    (by intro u hu; simp at hu; rcases hu with rfl | rfl <;> rfl) (fun hc j hj => ?_) (by unfold maxLen; omega) (by omega) (fun hc => ?_) (fun hc v' w' hown hgr => ?_)
  · simp at hj
    have hlt : off + n * 2 + j < cs.length := by omega
    have := hra.cell (i := off + n * 2 + j) (v := cs[off + n * 2 + j]) (List.getElem?_eq_getElem hlt)
    exact ⟨by rw [this]; rfl, hra.frozen _⟩
  · have hlen : ((cs.set (off + n * 2) (iv x)).set (off + n * 2 + 1) (iv y)).length = cs.length := by simp
    refine h g off cap _ _ ((hra.set (off + n * 2) (iv x)).set (off + n * 2 + 1) (iv y)) (fun j hj => ?_) (by rw [hlen]; exact hl) hc hbg (Or.inl rfl) (grownTrans (grownTrans (grownFresh (fnew (frefl _) _) _) (grownSet _ _ _ _)) (grownSet _ _ _ _))
    rcases Nat.lt_or_ge j (n * 2) with h1 | h1
    · exact ((hI.set (off + n * 2) x).set (off + n * 2 + 1) y) j h1
    · rcases (show j = n * 2 ∨ j = n * 2 + 1 by omega) with e | e
      · refine ⟨x, ?_⟩
        rw [e, List.getElem?_set_ne (by omega), List.getElem?_set, if_pos rfl, if_pos (by omega)]
      · refine ⟨y, ?_⟩
        rw [e, List.getElem?_set, if_pos (by omega), if_pos (by simp; omega)]
  · obtain ⟨hl2, ⟨_, e0⟩ | ⟨g', cap', cur, rfl, hg', hh, hn', hm', hsz, ht⟩⟩ := hown
    · omega
    · have hrow : RowAt w' g' 55 cur.toList := by unfold RowAt; rw [Array.toArray_toList]; exact hh
      refine h g' 0 cap' cur.toList w' hrow (fun j hj => ?_) (by simp; omega) hn' (Nat.le_trans hb (Nat.le_trans (by simp) hg')) (Or.inr (Nat.le_trans (by simp) hg')) (grownTrans (grownFresh (fnew (frefl _) _) _) (grownNone hgr _))
      have hj2 : (cur.toList.take ((n + 1) * 2))[j]? = cur.toList[j]? := by rw [List.getElem?_take, if_pos hj]
      rw [Nat.zero_add, ← hj2, ht]
      have hol : ((cs.drop off).take (n * 2)).length = n * 2 := by rw [List.length_take, List.length_drop]; omega
      rcases Nat.lt_or_ge j (n * 2) with h1 | h1
      · rw [List.getElem?_append_left (by omega), List.getElem?_take, if_pos h1, List.getElem?_drop]
        exact hI j h1
      · rw [List.getElem?_append_right (by omega), hol]
        rcases (show j = n * 2 ∨ j = n * 2 + 1 by omega) with e | e
        · rw [e, Nat.sub_self]; exact ⟨x, rfl⟩
        · rw [e, show n * 2 + 1 - n * 2 = 1 by omega]; exact ⟨y, rfl⟩
def OutFm (w : World) (r : Nat) (cv : Value) (n : Int) (e : Ending) (w' : World) : Prop := ∃ v n', e = .returned v ∧ FmAt w' r v ∧ n ≤ n' ∧ n' ≤ n + 60 ∧ Cur w' r cv n' ∧ w.grownBy w' (some r)
theorem base8 : ∀ {o m : Nat}, o + m * 2 ≤ 8 → AllI [iv 3000, iv 10, iv 1200, iv 20, iv 600, iv 40, iv 250, iv 80] o m := by
  intro o m h j hj
  have hlt : o + j < 8 := by omega
  match o + j, hlt with
  | 0, _ => exact ⟨_, rfl⟩
  | 1, _ => exact ⟨_, rfl⟩
  | 2, _ => exact ⟨_, rfl⟩
  | 3, _ => exact ⟨_, rfl⟩
  | 4, _ => exact ⟨_, rfl⟩
  | 5, _ => exact ⟨_, rfl⟩
  | 6, _ => exact ⟨_, rfl⟩
  | 7, _ => exact ⟨_, rfl⟩
set_option maxHeartbeats 8000000 in
set_option maxRecDepth 20000 in
theorem formats_any {W0 w : World} {r : Nat} {p : Option Addr} {cap : Nat} {xs : List Int} {n : Int} (hC : CodeAt W0 p xs) (hf : Fresh W0 w) (hr : W0.heap.size ≤ r) (h0 : 0 ≤ n) (h1 : n ≤ 274877906944) (hcur : Cur w r (.slice p xs.length cap) n) :
    Calls Try.prog 22 #[.pointer (some ⟨r, 0, none⟩)] w (OutFm w r (.slice p xs.length cap) n) := by
  have HX := Lib.hid hC
  have hrw : r < w.heap.size := by obtain ⟨_, hh⟩ := hcur; exact hh.lt
  have hw0 : W0.heap.size ≤ w.heap.size := hf.size
  obtain ⟨W1, hW1⟩ : ∃ W, W = w.alloc (.cells #[.int .i64 3000, .int .i64 10, .int .i64 1200, .int .i64 20, .int .i64 600, .int .i64 40, .int .i64 250, .int .i64 80] 55) := ⟨_, rfl⟩
  have hf1 : Fresh w W1 := by rw [hW1]; exact fnew (frefl _) _
  have hr1 : RowAt W1 w.heap.size 55 [iv 3000, iv 10, iv 1200, iv 20, iv 600, iv 40, iv 250, iv 80] := by rw [hW1]; exact RowAt.new _ _ _
  have f1 := fstep hf hf1
  have HC1 := Lib.hid (hcur.keep hf1)
  have HG1 := Lib.hid (grownFresh hf1 (some r))
  have HR1 := Lib.hid hr1
  have HW1 := Lib.hid hW1
  have hgr : w.heap.size ≠ r := by omega
  clear hC hcur hW1 hr1 hf1 hf
  go_enter Try.func22, Try.ntmps22
  go_wp2_with fail
  rw [← HW1.out]
  refine (pick_any HX.out 4 f1 hr (by omega) (by omega) (by omega) HC1.out).mono ?_; rintro e w2 ⟨x2, n2, ⟨p2, q2⟩, rfl, a2, b2, hc2, hg2⟩
  have f2 := freshGrown f1 hg2 hr
  have HC2 := Lib.hid hc2
  have HG2 := Lib.hid (grownTrans HG1.out hg2)
  have HR2 := Lib.hid (HR1.out.grown hg2 hgr)
  clear hc2 hg2
  obtain ⟨m, hm, hm4⟩ : ∃ m : Nat, 1 + x2 = (m : Int) ∧ m ≤ 4 := ⟨(1 + x2).toNat, by omega, by omega⟩
  have hm1 : 1 ≤ m := by omega
  have e1 : IntKind.i64.wrap (1 + x2) = (m : Int) := by rw [hm, IntKind.wrap_i64]; omega
  have hm4z : (m : Int) ≤ 4 := by omega
  clear hm
  go_wp2_with fail
  refine (one_any HX.out 3 f2 hr (by omega) (by omega) (by omega) HC2.out).mono ?_; rintro e w3 ⟨bo, n3, rfl, a3, b3, hc3, hg3⟩
  have f3 := freshGrown f2 hg3 hr
  have HC3 := Lib.hid hc3
  have HG3 := Lib.hid (grownTrans HG2.out hg3)
  have HR3 := Lib.hid (HR2.out.grown hg3 hgr)
  clear hc3 hg3 e1

  cases bo
  · skip
    go_wp2_with fail
    refine (pick_any HX.out (m : Int) f3 hr (by omega) (by omega) (by omega) HC3.out).mono ?_; rintro e w4 ⟨x4, n4, ⟨p4, q4⟩, rfl, a4, b4, hc4, hg4⟩
    have f4 := freshGrown f3 hg4 hr
    have HC4 := Lib.hid hc4
    have HG4 := Lib.hid (grownTrans HG3.out hg4)
    have HR4 := Lib.hid (HR3.out.grown hg4 hgr)
    clear hc4 hg4
    obtain ⟨i, rfl⟩ : ∃ i : Nat, x4 = (i : Int) := ⟨x4.toNat, by omega⟩
    have hi : i < m := by omega
    have hiz : (i : Int) < (m : Int) := by omega
    obtain ⟨a, ha⟩ := base8 (o := 0) (m := m) (by omega) (i * 2) (by omega)
    obtain ⟨b, hb⟩ := base8 (o := 0) (m := m) (by omega) (i * 2 + 1) (by omega)
    have d0 := HR4.out.cell ha
    have d1 := HR4.out.cell hb
    try rw [Nat.zero_add] at d0 d1
    try rw [← Nat.add_assoc] at d1
    obtain ⟨W5, hW5⟩ : ∃ W, W = w4.alloc (.cells #[.int .i64 a, .int .i64 b] 55) := ⟨_, rfl⟩
    have hf5 : Fresh w4 W5 := by rw [hW5]; exact fnew (frefl _) _
    have hb5 : RowAt W5 w4.heap.size 55 [iv a, iv b] := by rw [hW5]; exact RowAt.new _ _ _
    have hs5 : w.heap.size < w4.heap.size := HR4.out.lt
    have f5 := fstep f4 hf5
    have HC5 := Lib.hid (HC4.out.keep hf5)
    have HG5 := Lib.hid (grownTrans HG4.out (grownFresh hf5 _))
    have HR5 := Lib.hid (HR4.out.keep hf5)
    have HB5 := Lib.hid hb5
    have HW5 := Lib.hid hW5
    clear hf5 hb5 hW5 ha hb
    go_wp2_with fail
    rw [← HW5.out]
    refine (pick_any HX.out 24 f5 hr (by omega) (by omega) (by omega) HC5.out).mono ?_; rintro e w6 ⟨x6, n6, ⟨p6, q6⟩, rfl, a6, b6, hc6, hg6⟩
    have f6 := freshGrown f5 hg6 hr
    have HC6 := Lib.hid hc6
    have HG6 := Lib.hid (grownTrans HG5.out hg6)
    have HR6 := Lib.hid (HR5.out.grown hg6 hgr)
    have HB6 := Lib.hid (HB5.out.grown hg6 (by omega))
    have hs6 : w4.heap.size < w6.heap.size := HB6.out.lt
    clear hc6 hg6 d0 d1
    by_cases c0 : x6 = 0
    · have cb : (x6 == 0) = true := by simp [c0]
      obtain ⟨W7, hW7⟩ : ∃ W, W = w6.alloc (.cells #[.int .i64 0, .int .i64 20000, .int .i64 20001, .int .i64 250] 3) := ⟨_, rfl⟩
      have hf7 : Fresh w6 W7 := by rw [hW7]; exact fnew (frefl _) _
      have hr7 : RowAt W7 w6.heap.size 3 ([0, 20000, 20001, 250].map iv) := by rw [hW7]; exact RowAt.new _ _ _
      have HAM := Lib.hid (among_any HX.out (some ⟨w6.heap.size, 0, none⟩) 4 [0, 20000, 20001, 250] hr7.cells (by simp) (fun b o e => by cases e; omega) (fstep f6 hf7) hr (by omega) (by omega) (by simp) (HC6.out.keep hf7))
      have HW7 := Lib.hid hW7
      have HF7 := Lib.hid hf7
      clear hW7 hf7 hr7
      go_wp2_with fail
      rw [← HW7.out]
      refine (HAM.out).mono ?_; rintro e w8 ⟨z, n8, hz, rfl, a8, b8, hc8, hg8⟩
      have HC8 := Lib.hid hc8
      have HG8 := Lib.hid (grownTrans (grownTrans HG6.out (grownFresh HF7.out _)) hg8)
      have hb8 := (HB6.out.keep HF7.out).grown hg8 (by omega)
      have hr8 := (HR6.out.keep HF7.out).grown hg8 hgr
      have k0 := hb8.cell (i := 0) rfl
      have k1 := hb8.frozen 0
      have HB9 := Lib.hid (hb8.set 0 (iv z))
      have HR9 := Lib.hid (hr8.setOther (show w.heap.size ≠ w4.heap.size by omega) (o := 0) (iv z))
      have HC9 := Lib.hid (Cur.grown HC8.out (grownSet _ w4.heap.size 0 (iv z)) (show r ≠ w4.heap.size by omega))
      have HG9 := Lib.hid (grownOwn HG8.out (grownSet _ w4.heap.size 0 (iv z)) (by omega))
      clear hc8 hg8 hb8 hr8 hz HAM
      have rb := HB9.out
      have rr := HR9.out
      have t0 := rb.cell (i := 0) rfl
      have t1 := rb.cell (i := 1) rfl
      have ro := base8 (o := 0) (m := m) (by omega)
      obtain ⟨oa, hoa⟩ := ro (i * 2) (by omega)
      obtain ⟨ob, hob⟩ := ro (i * 2 + 1) (by omega)
      have v0 := rr.cell hoa
      have v1 := rr.cell hob
      have y0 := rr.frozen (i * 2)
      have y1 := rr.frozen (i * 2 + 1)
      try rw [Nat.zero_add] at v0 v1
      try rw [← Nat.add_assoc] at v1
      have hrow := (rr.set (i * 2) (iv z)).set (i * 2 + 1) (iv b)
      have hfin := Lib.hid hrow
      have hgg := Lib.hid (grownOwn (grownOwn HG9.out (grownSet _ w.heap.size (i * 2) (iv z)) (Nat.le_refl _)) (grownSet _ w.heap.size (i * 2 + 1) (iv b)) (Nat.le_refl _))
      have hcc := Lib.hid (Cur.grown (Cur.grown HC9.out (grownSet _ w.heap.size (i * 2) (iv z)) (Ne.symm hgr)) (grownSet _ w.heap.size (i * 2 + 1) (iv b)) (Ne.symm hgr))
      clear rb rr hrow hoa hob ro
      go_wp2
      go_ret
      exact ⟨_, n8, rfl, ⟨w.heap.size, 0, m, 4, _, rfl, hgr, by omega, hfin.out, ((base8 (by omega)).set _ _).set _ _⟩, by omega, by omega, hcc.out, hgg.out⟩
    by_cases c1 : x6 = 1
    · have cb : (x6 == 1) = true := by simp [c1]
      have ca : (x6 == 0) = false := by simp [c0]
      obtain ⟨W7, hW7⟩ : ∃ W, W = w6.alloc (.cells #[.int .i64 0, .int .i64 1000, .int .i64 1001, .int .i64 10] 3) := ⟨_, rfl⟩
      have hf7 : Fresh w6 W7 := by rw [hW7]; exact fnew (frefl _) _
      have hr7 : RowAt W7 w6.heap.size 3 ([0, 1000, 1001, 10].map iv) := by rw [hW7]; exact RowAt.new _ _ _
      have HAM := Lib.hid (among_any HX.out (some ⟨w6.heap.size, 0, none⟩) 4 [0, 1000, 1001, 10] hr7.cells (by simp) (fun b o e => by cases e; omega) (fstep f6 hf7) hr (by omega) (by omega) (by simp) (HC6.out.keep hf7))
      have HW7 := Lib.hid hW7
      have HF7 := Lib.hid hf7
      clear hW7 hf7 hr7
      go_wp2_with fail
      rw [← HW7.out]
      refine (HAM.out).mono ?_; rintro e w8 ⟨z, n8, hz, rfl, a8, b8, hc8, hg8⟩
      have HC8 := Lib.hid hc8
      have HG8 := Lib.hid (grownTrans (grownTrans HG6.out (grownFresh HF7.out _)) hg8)
      have hb8 := (HB6.out.keep HF7.out).grown hg8 (by omega)
      have hr8 := (HR6.out.keep HF7.out).grown hg8 hgr
      have k0 := hb8.cell (i := 1) rfl
      have k1 := hb8.frozen 1
      have HB9 := Lib.hid (hb8.set 1 (iv z))
      have HR9 := Lib.hid (hr8.setOther (show w.heap.size ≠ w4.heap.size by omega) (o := 1) (iv z))
      have HC9 := Lib.hid (Cur.grown HC8.out (grownSet _ w4.heap.size 1 (iv z)) (show r ≠ w4.heap.size by omega))
      have HG9 := Lib.hid (grownOwn HG8.out (grownSet _ w4.heap.size 1 (iv z)) (by omega))
      clear hc8 hg8 hb8 hr8 hz HAM
      have rb := HB9.out
      have rr := HR9.out
      have t0 := rb.cell (i := 0) rfl
      have t1 := rb.cell (i := 1) rfl
      have ro := base8 (o := 0) (m := m) (by omega)
      obtain ⟨oa, hoa⟩ := ro (i * 2) (by omega)
      obtain ⟨ob, hob⟩ := ro (i * 2 + 1) (by omega)
      have v0 := rr.cell hoa
      have v1 := rr.cell hob
      have y0 := rr.frozen (i * 2)
      have y1 := rr.frozen (i * 2 + 1)
      try rw [Nat.zero_add] at v0 v1
      try rw [← Nat.add_assoc] at v1
      have hrow := (rr.set (i * 2) (iv a)).set (i * 2 + 1) (iv z)
      have hfin := Lib.hid hrow
      have hgg := Lib.hid (grownOwn (grownOwn HG9.out (grownSet _ w.heap.size (i * 2) (iv a)) (Nat.le_refl _)) (grownSet _ w.heap.size (i * 2 + 1) (iv z)) (Nat.le_refl _))
      have hcc := Lib.hid (Cur.grown (Cur.grown HC9.out (grownSet _ w.heap.size (i * 2) (iv a)) (Ne.symm hgr)) (grownSet _ w.heap.size (i * 2 + 1) (iv z)) (Ne.symm hgr))
      clear rb rr hrow hoa hob ro
      go_wp2
      go_ret
      exact ⟨_, n8, rfl, ⟨w.heap.size, 0, m, 4, _, rfl, hgr, by omega, hfin.out, ((base8 (by omega)).set _ _).set _ _⟩, by omega, by omega, hcc.out, hgg.out⟩
    by_cases c2 : x6 = 2
    · have ca : (x6 == 0) = false := by simp [c0]
      have cb : (x6 == 1) = false := by simp [c1]
      have cc : (x6 == 2) = true := by simp [c2]
      go_wp2
      go_ret
      exact ⟨_, n6, rfl, ⟨w6.heap.size, 0, 0, 0, [], rfl, by omega, by omega, RowAt.new w6 _ [], fun j hj => by omega⟩, by omega, by omega, HC6.out.keep (fnew (frefl _) _), grownTrans HG6.out (grownFresh (fnew (frefl _) _) _)⟩
    have ca : (x6 == 0) = false := by simp [c0]
    have cb : (x6 == 1) = false := by simp [c1]
    have cc : (x6 == 2) = false := by simp [c2]
    by_cases c3 : x6 = 3
    · have cd : (x6 == 3) = true := by simp [c3]
      have hcs8 : ([iv 3000, iv 10, iv 1200, iv 20, iv 600, iv 40, iv 250, iv 80] : List Value).length = 8 := rfl
      have HI := Lib.hid (base8 (o := 0) (m := m) (by omega))
      have HF6 := Lib.hid f6
      clear f6
      go_wp2
      go_loopw [3, 6] (fun l k wr => ∃ (g of mm cc K : Nat) (cs : List Value) (nn : Int), l = .slice (some ⟨g, of, none⟩) mm cc ∧ k = .int .i64 K ∧ K < mm ∧ mm ≤ 7 ∧ g ≠ r ∧ w.heap.size ≤ g ∧ RowAt wr g 55 cs ∧ AllI cs of mm ∧ of + cc * 2 ≤ cs.length ∧ mm ≤ cc ∧ n ≤ nn ∧ nn ≤ n + 20 + 2 * (K : Int) ∧ Cur wr r (.slice p xs.length cap) nn ∧ Fresh W0 wr ∧ w.grownBy wr (some r)) (fun _ k _ => 8 - (intOf k).toNat)
      case atStart => exact ⟨w.heap.size, 0, m, 4, 0, _, n6, rfl, rfl, by omega, by omega, hgr, Nat.le_refl _, HR6.out, HI.out, by omega, by omega, by omega, by omega, HC6.out, HF6.out, HG6.out⟩
      case round =>
        obtain ⟨g, of, mm, cc, K, cs, nn, rfl, rfl, hK, hmm, hgr2, hgw, hrow, hI, hcl, hmc, hn1, hn2, hcu, hfw, hgb⟩ := hrel
        have HCU := Lib.hid hcu
        have HFW := Lib.hid hfw
        have HGB := Lib.hid hgb
        have HRW := Lib.hid hrow
        have HII := Lib.hid hI
        clear hcu hgb hrow hI
        go_wp2_with fail
        refine (pick_any HX.out 2 hfw hr (by omega) (by omega) (by omega) HCU.out).mono ?_; rintro e w9 ⟨x9, n9, ⟨p9, q9⟩, rfl, a9, b9, hc9, hg9⟩
        have f9 := freshGrown hfw hg9 hr
        have HC9 := Lib.hid hc9
        have HG9 := Lib.hid (grownTrans HGB.out hg9)
        have HR9 := Lib.hid (HRW.out.grown hg9 hgr2)
        have HF9 := Lib.hid f9
        clear hc9 hg9 f9 hfw
        have e6 : IntKind.i64.wrap (6 + x9) = 6 + x9 := by rw [IntKind.wrap_i64]; omega
        by_cases hlt : (mm : Int) < 6 + x9
        · have e7 : IntKind.i64.wrap (10 * (K : Int)) = 10 * (K : Int) := by rw [IntKind.wrap_i64]; omega
          have e8 : IntKind.i64.wrap (200 - 10 * (K : Int)) = 200 - 10 * (K : Int) := by rw [IntKind.wrap_i64]; omega
          have e9 : IntKind.i64.wrap (90 + (K : Int)) = 90 + (K : Int) := by rw [IntKind.wrap_i64]; omega
          have hsz9 : w.heap.size ≤ w9.heap.size := HG9.out.size
          go_wp2_with (at_builtin; refine wpList_app_fm w.heap.size w9 g of mm cc cs (200 - 10 * (K : Int)) (90 + (K : Int)) rfl _ _ rfl rfl HR9.out HII.out hcl hmc (by omega) rfl hsz9 hgw ?_; intro g2 of2 cc2 cs2 w10 hr10 hi10 hl10 hc10 hb10 hg10 hgb10)
          have hne : r ≠ g := fun e => hgr2 e.symm
          have hg2r : g2 ≠ r := by rcases hg10 with h | h; (· omega); (· have := HC9.out; obtain ⟨_, hh⟩ := this; have := hh.lt; omega)
          have HR10 := Lib.hid hr10
          have HI10 := Lib.hid hi10
          have HC10 := Lib.hid (Cur.grown HC9.out hgb10 hne)
          have HG10 := Lib.hid (grownOwn HG9.out hgb10 hgw)
          have HF10 := Lib.hid (freshGrown HF9.out hgb10 (Nat.le_trans hw0 hgw))
          clear hr10 hi10 hgb10 e6 e7 e8 e9
          go_wp2
          go_roundw
          case rel => exact ⟨g2, of2, mm + 1, cc2, K + 1, cs2, n9, rfl, by go_num, by omega, by omega, hg2r, hb10, HR10.out, HI10.out, hl10, hc10, by omega, by omega, HC10.out, HF10.out, HG10.out⟩
          case measure => simp [intOf]; omega
        · go_wp2
          go_ret
          exact ⟨_, n9, rfl, ⟨g, of, mm, cc, cs, rfl, hgr2, by omega, HR9.out, HII.out⟩, by omega, by omega, HC9.out, HG9.out⟩
    · have cd : (x6 == 3) = false := by simp [c3]
      have rb := HB6.out
      have rr := HR6.out
      have t0 := rb.cell (i := 0) rfl
      have t1 := rb.cell (i := 1) rfl
      have ro := base8 (o := 0) (m := m) (by omega)
      obtain ⟨oa, hoa⟩ := ro (i * 2) (by omega)
      obtain ⟨ob, hob⟩ := ro (i * 2 + 1) (by omega)
      have v0 := rr.cell hoa
      have v1 := rr.cell hob
      have y0 := rr.frozen (i * 2)
      have y1 := rr.frozen (i * 2 + 1)
      try rw [Nat.zero_add] at v0 v1
      try rw [← Nat.add_assoc] at v1
      have hrow := (rr.set (i * 2) (iv a)).set (i * 2 + 1) (iv b)
      have hfin := Lib.hid hrow
      have hgg := Lib.hid (grownOwn (grownOwn HG6.out (grownSet _ w.heap.size (i * 2) (iv a)) (Nat.le_refl _)) (grownSet _ w.heap.size (i * 2 + 1) (iv b)) (Nat.le_refl _))
      have hcc := Lib.hid (Cur.grown (Cur.grown HC6.out (grownSet _ w.heap.size (i * 2) (iv a)) (Ne.symm hgr)) (grownSet _ w.heap.size (i * 2 + 1) (iv b)) (Ne.symm hgr))
      clear rb rr hrow hoa hob ro
      go_wp2
      go_ret
      exact ⟨_, n6, rfl, ⟨w.heap.size, 0, m, 4, _, rfl, hgr, by omega, hfin.out, ((base8 (by omega)).set _ _).set _ _⟩, by omega, by omega, hcc.out, hgg.out⟩
  · by_cases hgt : 1 < m
    · have hgz : (1 : Int) < (m : Int) := by omega
      obtain ⟨k, hk⟩ : ∃ k, m - 1 = k := ⟨_, rfl⟩
      have hk1 : 1 ≤ k := by omega
      have hk3 : k ≤ 3 := by omega
      have hm1' : 1 ≤ m := by omega
      go_wp2_with fail
      refine (pick_any HX.out (k : Int) f3 hr (by omega) (by omega) (by omega) HC3.out).mono ?_; rintro e w4 ⟨x4, n4, ⟨p4, q4⟩, rfl, a4, b4, hc4, hg4⟩
      have f4 := freshGrown f3 hg4 hr
      have HC4 := Lib.hid hc4
      have HG4 := Lib.hid (grownTrans HG3.out hg4)
      have HR4 := Lib.hid (HR3.out.grown hg4 hgr)
      clear hc4 hg4
      obtain ⟨i, rfl⟩ : ∃ i : Nat, x4 = (i : Int) := ⟨x4.toNat, by omega⟩
      have hi : i < k := by omega
      have hiz : (i : Int) < (k : Int) := by omega
      obtain ⟨a, ha⟩ := base8 (o := 2) (m := k) (by omega) (i * 2) (by omega)
      obtain ⟨b, hb⟩ := base8 (o := 2) (m := k) (by omega) (i * 2 + 1) (by omega)
      have d0 := HR4.out.cell ha
      have d1 := HR4.out.cell hb
      try rw [Nat.zero_add] at d0 d1
      try rw [← Nat.add_assoc] at d1
      obtain ⟨W5, hW5⟩ : ∃ W, W = w4.alloc (.cells #[.int .i64 a, .int .i64 b] 55) := ⟨_, rfl⟩
      have hf5 : Fresh w4 W5 := by rw [hW5]; exact fnew (frefl _) _
      have hb5 : RowAt W5 w4.heap.size 55 [iv a, iv b] := by rw [hW5]; exact RowAt.new _ _ _
      have hs5 : w.heap.size < w4.heap.size := HR4.out.lt
      have f5 := fstep f4 hf5
      have HC5 := Lib.hid (HC4.out.keep hf5)
      have HG5 := Lib.hid (grownTrans HG4.out (grownFresh hf5 _))
      have HR5 := Lib.hid (HR4.out.keep hf5)
      have HB5 := Lib.hid hb5
      have HW5 := Lib.hid hW5
      clear hf5 hb5 hW5 ha hb
      go_wp2_with fail
      rw [← HW5.out]
      refine (pick_any HX.out 24 f5 hr (by omega) (by omega) (by omega) HC5.out).mono ?_; rintro e w6 ⟨x6, n6, ⟨p6, q6⟩, rfl, a6, b6, hc6, hg6⟩
      have f6 := freshGrown f5 hg6 hr
      have HC6 := Lib.hid hc6
      have HG6 := Lib.hid (grownTrans HG5.out hg6)
      have HR6 := Lib.hid (HR5.out.grown hg6 hgr)
      have HB6 := Lib.hid (HB5.out.grown hg6 (by omega))
      have hs6 : w4.heap.size < w6.heap.size := HB6.out.lt
      clear hc6 hg6 d0 d1
      by_cases c0 : x6 = 0
      · have cb : (x6 == 0) = true := by simp [c0]
        obtain ⟨W7, hW7⟩ : ∃ W, W = w6.alloc (.cells #[.int .i64 0, .int .i64 20000, .int .i64 20001, .int .i64 250] 3) := ⟨_, rfl⟩
        have hf7 : Fresh w6 W7 := by rw [hW7]; exact fnew (frefl _) _
        have hr7 : RowAt W7 w6.heap.size 3 ([0, 20000, 20001, 250].map iv) := by rw [hW7]; exact RowAt.new _ _ _
        have HAM := Lib.hid (among_any HX.out (some ⟨w6.heap.size, 0, none⟩) 4 [0, 20000, 20001, 250] hr7.cells (by simp) (fun b o e => by cases e; omega) (fstep f6 hf7) hr (by omega) (by omega) (by simp) (HC6.out.keep hf7))
        have HW7 := Lib.hid hW7
        have HF7 := Lib.hid hf7
        clear hW7 hf7 hr7
        go_wp2_with fail
        rw [← HW7.out]
        refine (HAM.out).mono ?_; rintro e w8 ⟨z, n8, hz, rfl, a8, b8, hc8, hg8⟩
        have HC8 := Lib.hid hc8
        have HG8 := Lib.hid (grownTrans (grownTrans HG6.out (grownFresh HF7.out _)) hg8)
        have hb8 := (HB6.out.keep HF7.out).grown hg8 (by omega)
        have hr8 := (HR6.out.keep HF7.out).grown hg8 hgr
        have k0 := hb8.cell (i := 0) rfl
        have k1 := hb8.frozen 0
        have HB9 := Lib.hid (hb8.set 0 (iv z))
        have HR9 := Lib.hid (hr8.setOther (show w.heap.size ≠ w4.heap.size by omega) (o := 0) (iv z))
        have HC9 := Lib.hid (Cur.grown HC8.out (grownSet _ w4.heap.size 0 (iv z)) (show r ≠ w4.heap.size by omega))
        have HG9 := Lib.hid (grownOwn HG8.out (grownSet _ w4.heap.size 0 (iv z)) (by omega))
        clear hc8 hg8 hb8 hr8 hz HAM
        have rb := HB9.out
        have rr := HR9.out
        have t0 := rb.cell (i := 0) rfl
        have t1 := rb.cell (i := 1) rfl
        have ro := base8 (o := 2) (m := k) (by omega)
        obtain ⟨oa, hoa⟩ := ro (i * 2) (by omega)
        obtain ⟨ob, hob⟩ := ro (i * 2 + 1) (by omega)
        have v0 := rr.cell hoa
        have v1 := rr.cell hob
        have y0 := rr.frozen (2 + i * 2)
        have y1 := rr.frozen (2 + i * 2 + 1)
        try rw [Nat.zero_add] at v0 v1
        try rw [← Nat.add_assoc] at v1
        have hrow := (rr.set (2 + i * 2) (iv z)).set (2 + i * 2 + 1) (iv b)
        have hfin := Lib.hid hrow
        have hgg := Lib.hid (grownOwn (grownOwn HG9.out (grownSet _ w.heap.size (2 + i * 2) (iv z)) (Nat.le_refl _)) (grownSet _ w.heap.size (2 + i * 2 + 1) (iv b)) (Nat.le_refl _))
        have hcc := Lib.hid (Cur.grown (Cur.grown HC9.out (grownSet _ w.heap.size (2 + i * 2) (iv z)) (Ne.symm hgr)) (grownSet _ w.heap.size (2 + i * 2 + 1) (iv b)) (Ne.symm hgr))
        clear rb rr hrow hoa hob ro
        go_wp2
        go_ret
        exact ⟨_, n8, rfl, ⟨w.heap.size, 2, k, 3, _, rfl, hgr, by omega, hfin.out, ((base8 (by omega)).set _ _).set _ _⟩, by omega, by omega, hcc.out, hgg.out⟩
      by_cases c1 : x6 = 1
      · have cb : (x6 == 1) = true := by simp [c1]
        have ca : (x6 == 0) = false := by simp [c0]
        obtain ⟨W7, hW7⟩ : ∃ W, W = w6.alloc (.cells #[.int .i64 0, .int .i64 1000, .int .i64 1001, .int .i64 10] 3) := ⟨_, rfl⟩
        have hf7 : Fresh w6 W7 := by rw [hW7]; exact fnew (frefl _) _
        have hr7 : RowAt W7 w6.heap.size 3 ([0, 1000, 1001, 10].map iv) := by rw [hW7]; exact RowAt.new _ _ _
        have HAM := Lib.hid (among_any HX.out (some ⟨w6.heap.size, 0, none⟩) 4 [0, 1000, 1001, 10] hr7.cells (by simp) (fun b o e => by cases e; omega) (fstep f6 hf7) hr (by omega) (by omega) (by simp) (HC6.out.keep hf7))
        have HW7 := Lib.hid hW7
        have HF7 := Lib.hid hf7
        clear hW7 hf7 hr7
        go_wp2_with fail
        rw [← HW7.out]
        refine (HAM.out).mono ?_; rintro e w8 ⟨z, n8, hz, rfl, a8, b8, hc8, hg8⟩
        have HC8 := Lib.hid hc8
        have HG8 := Lib.hid (grownTrans (grownTrans HG6.out (grownFresh HF7.out _)) hg8)
        have hb8 := (HB6.out.keep HF7.out).grown hg8 (by omega)
        have hr8 := (HR6.out.keep HF7.out).grown hg8 hgr
        have k0 := hb8.cell (i := 1) rfl
        have k1 := hb8.frozen 1
        have HB9 := Lib.hid (hb8.set 1 (iv z))
        have HR9 := Lib.hid (hr8.setOther (show w.heap.size ≠ w4.heap.size by omega) (o := 1) (iv z))
        have HC9 := Lib.hid (Cur.grown HC8.out (grownSet _ w4.heap.size 1 (iv z)) (show r ≠ w4.heap.size by omega))
        have HG9 := Lib.hid (grownOwn HG8.out (grownSet _ w4.heap.size 1 (iv z)) (by omega))
        clear hc8 hg8 hb8 hr8 hz HAM
        have rb := HB9.out
        have rr := HR9.out
        have t0 := rb.cell (i := 0) rfl
        have t1 := rb.cell (i := 1) rfl
        have ro := base8 (o := 2) (m := k) (by omega)
        obtain ⟨oa, hoa⟩ := ro (i * 2) (by omega)
        obtain ⟨ob, hob⟩ := ro (i * 2 + 1) (by omega)
        have v0 := rr.cell hoa
        have v1 := rr.cell hob
        have y0 := rr.frozen (2 + i * 2)
        have y1 := rr.frozen (2 + i * 2 + 1)
        try rw [Nat.zero_add] at v0 v1
        try rw [← Nat.add_assoc] at v1
        have hrow := (rr.set (2 + i * 2) (iv a)).set (2 + i * 2 + 1) (iv z)
        have hfin := Lib.hid hrow
        have hgg := Lib.hid (grownOwn (grownOwn HG9.out (grownSet _ w.heap.size (2 + i * 2) (iv a)) (Nat.le_refl _)) (grownSet _ w.heap.size (2 + i * 2 + 1) (iv z)) (Nat.le_refl _))
        have hcc := Lib.hid (Cur.grown (Cur.grown HC9.out (grownSet _ w.heap.size (2 + i * 2) (iv a)) (Ne.symm hgr)) (grownSet _ w.heap.size (2 + i * 2 + 1) (iv z)) (Ne.symm hgr))
        clear rb rr hrow hoa hob ro
        go_wp2
        go_ret
        exact ⟨_, n8, rfl, ⟨w.heap.size, 2, k, 3, _, rfl, hgr, by omega, hfin.out, ((base8 (by omega)).set _ _).set _ _⟩, by omega, by omega, hcc.out, hgg.out⟩
      by_cases c2 : x6 = 2
      · have ca : (x6 == 0) = false := by simp [c0]
        have cb : (x6 == 1) = false := by simp [c1]
        have cc : (x6 == 2) = true := by simp [c2]
        go_wp2
        go_ret
        exact ⟨_, n6, rfl, ⟨w6.heap.size, 0, 0, 0, [], rfl, by omega, by omega, RowAt.new w6 _ [], fun j hj => by omega⟩, by omega, by omega, HC6.out.keep (fnew (frefl _) _), grownTrans HG6.out (grownFresh (fnew (frefl _) _) _)⟩
      have ca : (x6 == 0) = false := by simp [c0]
      have cb : (x6 == 1) = false := by simp [c1]
      have cc : (x6 == 2) = false := by simp [c2]
      by_cases c3 : x6 = 3
      · have cd : (x6 == 3) = true := by simp [c3]
        have hcs8 : ([iv 3000, iv 10, iv 1200, iv 20, iv 600, iv 40, iv 250, iv 80] : List Value).length = 8 := rfl
        have HI := Lib.hid (base8 (o := 2) (m := k) (by omega))
        have HF6 := Lib.hid f6
        clear f6
        go_wp2
        go_loopw [3, 6] (fun l k wr => ∃ (g of mm cc K : Nat) (cs : List Value) (nn : Int), l = .slice (some ⟨g, of, none⟩) mm cc ∧ k = .int .i64 K ∧ K < mm ∧ mm ≤ 7 ∧ g ≠ r ∧ w.heap.size ≤ g ∧ RowAt wr g 55 cs ∧ AllI cs of mm ∧ of + cc * 2 ≤ cs.length ∧ mm ≤ cc ∧ n ≤ nn ∧ nn ≤ n + 20 + 2 * (K : Int) ∧ Cur wr r (.slice p xs.length cap) nn ∧ Fresh W0 wr ∧ w.grownBy wr (some r)) (fun _ k _ => 8 - (intOf k).toNat)
        case atStart => exact ⟨w.heap.size, 2, k, 3, 0, _, n6, rfl, rfl, by omega, by omega, hgr, Nat.le_refl _, HR6.out, HI.out, by omega, by omega, by omega, by omega, HC6.out, HF6.out, HG6.out⟩
        case round =>
          obtain ⟨g, of, mm, cc, K, cs, nn, rfl, rfl, hK, hmm, hgr2, hgw, hrow, hI, hcl, hmc, hn1, hn2, hcu, hfw, hgb⟩ := hrel
          have HCU := Lib.hid hcu
          have HFW := Lib.hid hfw
          have HGB := Lib.hid hgb
          have HRW := Lib.hid hrow
          have HII := Lib.hid hI
          clear hcu hgb hrow hI
          go_wp2_with fail
          refine (pick_any HX.out 2 hfw hr (by omega) (by omega) (by omega) HCU.out).mono ?_; rintro e w9 ⟨x9, n9, ⟨p9, q9⟩, rfl, a9, b9, hc9, hg9⟩
          have f9 := freshGrown hfw hg9 hr
          have HC9 := Lib.hid hc9
          have HG9 := Lib.hid (grownTrans HGB.out hg9)
          have HR9 := Lib.hid (HRW.out.grown hg9 hgr2)
          have HF9 := Lib.hid f9
          clear hc9 hg9 f9 hfw
          have e6 : IntKind.i64.wrap (6 + x9) = 6 + x9 := by rw [IntKind.wrap_i64]; omega
          by_cases hlt : (mm : Int) < 6 + x9
          · have e7 : IntKind.i64.wrap (10 * (K : Int)) = 10 * (K : Int) := by rw [IntKind.wrap_i64]; omega
            have e8 : IntKind.i64.wrap (200 - 10 * (K : Int)) = 200 - 10 * (K : Int) := by rw [IntKind.wrap_i64]; omega
            have e9 : IntKind.i64.wrap (90 + (K : Int)) = 90 + (K : Int) := by rw [IntKind.wrap_i64]; omega
            have hsz9 : w.heap.size ≤ w9.heap.size := HG9.out.size
            go_wp2_with (at_builtin; refine wpList_app_fm w.heap.size w9 g of mm cc cs (200 - 10 * (K : Int)) (90 + (K : Int)) rfl _ _ rfl rfl HR9.out HII.out hcl hmc (by omega) rfl hsz9 hgw ?_; intro g2 of2 cc2 cs2 w10 hr10 hi10 hl10 hc10 hb10 hg10 hgb10)
            have hne : r ≠ g := fun e => hgr2 e.symm
            have hg2r : g2 ≠ r := by rcases hg10 with h | h; (· omega); (· have := HC9.out; obtain ⟨_, hh⟩ := this; have := hh.lt; omega)
            have HR10 := Lib.hid hr10
            have HI10 := Lib.hid hi10
            have HC10 := Lib.hid (Cur.grown HC9.out hgb10 hne)
            have HG10 := Lib.hid (grownOwn HG9.out hgb10 hgw)
            have HF10 := Lib.hid (freshGrown HF9.out hgb10 (Nat.le_trans hw0 hgw))
            clear hr10 hi10 hgb10 e6 e7 e8 e9
            go_wp2
            go_roundw
            case rel => exact ⟨g2, of2, mm + 1, cc2, K + 1, cs2, n9, rfl, by go_num, by omega, by omega, hg2r, hb10, HR10.out, HI10.out, hl10, hc10, by omega, by omega, HC10.out, HF10.out, HG10.out⟩
            case measure => simp [intOf]; omega
          · go_wp2
            go_ret
            exact ⟨_, n9, rfl, ⟨g, of, mm, cc, cs, rfl, hgr2, by omega, HR9.out, HII.out⟩, by omega, by omega, HC9.out, HG9.out⟩
      · have cd : (x6 == 3) = false := by simp [c3]
        have rb := HB6.out
        have rr := HR6.out
        have t0 := rb.cell (i := 0) rfl
        have t1 := rb.cell (i := 1) rfl
        have ro := base8 (o := 2) (m := k) (by omega)
        obtain ⟨oa, hoa⟩ := ro (i * 2) (by omega)
        obtain ⟨ob, hob⟩ := ro (i * 2 + 1) (by omega)
        have v0 := rr.cell hoa
        have v1 := rr.cell hob
        have y0 := rr.frozen (2 + i * 2)
        have y1 := rr.frozen (2 + i * 2 + 1)
        try rw [Nat.zero_add] at v0 v1
        try rw [← Nat.add_assoc] at v1
        have hrow := (rr.set (2 + i * 2) (iv a)).set (2 + i * 2 + 1) (iv b)
        have hfin := Lib.hid hrow
        have hgg := Lib.hid (grownOwn (grownOwn HG6.out (grownSet _ w.heap.size (2 + i * 2) (iv a)) (Nat.le_refl _)) (grownSet _ w.heap.size (2 + i * 2 + 1) (iv b)) (Nat.le_refl _))
        have hcc := Lib.hid (Cur.grown (Cur.grown HC6.out (grownSet _ w.heap.size (2 + i * 2) (iv a)) (Ne.symm hgr)) (grownSet _ w.heap.size (2 + i * 2 + 1) (iv b)) (Ne.symm hgr))
        clear rb rr hrow hoa hob ro
        go_wp2
        go_ret
        exact ⟨_, n6, rfl, ⟨w.heap.size, 2, k, 3, _, rfl, hgr, by omega, hfin.out, ((base8 (by omega)).set _ _).set _ _⟩, by omega, by omega, hcc.out, hgg.out⟩
    · have hgz : ¬ (1 : Int) < (m : Int) := by omega
      go_wp2_with fail
      refine (pick_any HX.out (m : Int) f3 hr (by omega) (by omega) (by omega) HC3.out).mono ?_; rintro e w4 ⟨x4, n4, ⟨p4, q4⟩, rfl, a4, b4, hc4, hg4⟩
      have f4 := freshGrown f3 hg4 hr
      have HC4 := Lib.hid hc4
      have HG4 := Lib.hid (grownTrans HG3.out hg4)
      have HR4 := Lib.hid (HR3.out.grown hg4 hgr)
      clear hc4 hg4
      obtain ⟨i, rfl⟩ : ∃ i : Nat, x4 = (i : Int) := ⟨x4.toNat, by omega⟩
      have hi : i < m := by omega
      have hiz : (i : Int) < (m : Int) := by omega
      obtain ⟨a, ha⟩ := base8 (o := 0) (m := m) (by omega) (i * 2) (by omega)
      obtain ⟨b, hb⟩ := base8 (o := 0) (m := m) (by omega) (i * 2 + 1) (by omega)
      have d0 := HR4.out.cell ha
      have d1 := HR4.out.cell hb
      try rw [Nat.zero_add] at d0 d1
      try rw [← Nat.add_assoc] at d1
      obtain ⟨W5, hW5⟩ : ∃ W, W = w4.alloc (.cells #[.int .i64 a, .int .i64 b] 55) := ⟨_, rfl⟩
      have hf5 : Fresh w4 W5 := by rw [hW5]; exact fnew (frefl _) _
      have hb5 : RowAt W5 w4.heap.size 55 [iv a, iv b] := by rw [hW5]; exact RowAt.new _ _ _
      have hs5 : w.heap.size < w4.heap.size := HR4.out.lt
      have f5 := fstep f4 hf5
      have HC5 := Lib.hid (HC4.out.keep hf5)
      have HG5 := Lib.hid (grownTrans HG4.out (grownFresh hf5 _))
      have HR5 := Lib.hid (HR4.out.keep hf5)
      have HB5 := Lib.hid hb5
      have HW5 := Lib.hid hW5
      clear hf5 hb5 hW5 ha hb
      go_wp2_with fail
      rw [← HW5.out]
      refine (pick_any HX.out 24 f5 hr (by omega) (by omega) (by omega) HC5.out).mono ?_; rintro e w6 ⟨x6, n6, ⟨p6, q6⟩, rfl, a6, b6, hc6, hg6⟩
      have f6 := freshGrown f5 hg6 hr
      have HC6 := Lib.hid hc6
      have HG6 := Lib.hid (grownTrans HG5.out hg6)
      have HR6 := Lib.hid (HR5.out.grown hg6 hgr)
      have HB6 := Lib.hid (HB5.out.grown hg6 (by omega))
      have hs6 : w4.heap.size < w6.heap.size := HB6.out.lt
      clear hc6 hg6 d0 d1
      by_cases c0 : x6 = 0
      · have cb : (x6 == 0) = true := by simp [c0]
        obtain ⟨W7, hW7⟩ : ∃ W, W = w6.alloc (.cells #[.int .i64 0, .int .i64 20000, .int .i64 20001, .int .i64 250] 3) := ⟨_, rfl⟩
        have hf7 : Fresh w6 W7 := by rw [hW7]; exact fnew (frefl _) _
        have hr7 : RowAt W7 w6.heap.size 3 ([0, 20000, 20001, 250].map iv) := by rw [hW7]; exact RowAt.new _ _ _
        have HAM := Lib.hid (among_any HX.out (some ⟨w6.heap.size, 0, none⟩) 4 [0, 20000, 20001, 250] hr7.cells (by simp) (fun b o e => by cases e; omega) (fstep f6 hf7) hr (by omega) (by omega) (by simp) (HC6.out.keep hf7))
        have HW7 := Lib.hid hW7
        have HF7 := Lib.hid hf7
        clear hW7 hf7 hr7
        go_wp2_with fail
        rw [← HW7.out]
        refine (HAM.out).mono ?_; rintro e w8 ⟨z, n8, hz, rfl, a8, b8, hc8, hg8⟩
        have HC8 := Lib.hid hc8
        have HG8 := Lib.hid (grownTrans (grownTrans HG6.out (grownFresh HF7.out _)) hg8)
        have hb8 := (HB6.out.keep HF7.out).grown hg8 (by omega)
        have hr8 := (HR6.out.keep HF7.out).grown hg8 hgr
        have k0 := hb8.cell (i := 0) rfl
        have k1 := hb8.frozen 0
        have HB9 := Lib.hid (hb8.set 0 (iv z))
        have HR9 := Lib.hid (hr8.setOther (show w.heap.size ≠ w4.heap.size by omega) (o := 0) (iv z))
        have HC9 := Lib.hid (Cur.grown HC8.out (grownSet _ w4.heap.size 0 (iv z)) (show r ≠ w4.heap.size by omega))
        have HG9 := Lib.hid (grownOwn HG8.out (grownSet _ w4.heap.size 0 (iv z)) (by omega))
        clear hc8 hg8 hb8 hr8 hz HAM
        have rb := HB9.out
        have rr := HR9.out
        have t0 := rb.cell (i := 0) rfl
        have t1 := rb.cell (i := 1) rfl
        have ro := base8 (o := 0) (m := m) (by omega)
        obtain ⟨oa, hoa⟩ := ro (i * 2) (by omega)
        obtain ⟨ob, hob⟩ := ro (i * 2 + 1) (by omega)
        have v0 := rr.cell hoa
        have v1 := rr.cell hob
        have y0 := rr.frozen (i * 2)
        have y1 := rr.frozen (i * 2 + 1)
        try rw [Nat.zero_add] at v0 v1
        try rw [← Nat.add_assoc] at v1
        have hrow := (rr.set (i * 2) (iv z)).set (i * 2 + 1) (iv b)
        have hfin := Lib.hid hrow
        have hgg := Lib.hid (grownOwn (grownOwn HG9.out (grownSet _ w.heap.size (i * 2) (iv z)) (Nat.le_refl _)) (grownSet _ w.heap.size (i * 2 + 1) (iv b)) (Nat.le_refl _))
        have hcc := Lib.hid (Cur.grown (Cur.grown HC9.out (grownSet _ w.heap.size (i * 2) (iv z)) (Ne.symm hgr)) (grownSet _ w.heap.size (i * 2 + 1) (iv b)) (Ne.symm hgr))
        clear rb rr hrow hoa hob ro
        go_wp2
        go_ret
        exact ⟨_, n8, rfl, ⟨w.heap.size, 0, m, 4, _, rfl, hgr, by omega, hfin.out, ((base8 (by omega)).set _ _).set _ _⟩, by omega, by omega, hcc.out, hgg.out⟩
      by_cases c1 : x6 = 1
      · have cb : (x6 == 1) = true := by simp [c1]
        have ca : (x6 == 0) = false := by simp [c0]
        obtain ⟨W7, hW7⟩ : ∃ W, W = w6.alloc (.cells #[.int .i64 0, .int .i64 1000, .int .i64 1001, .int .i64 10] 3) := ⟨_, rfl⟩
        have hf7 : Fresh w6 W7 := by rw [hW7]; exact fnew (frefl _) _
        have hr7 : RowAt W7 w6.heap.size 3 ([0, 1000, 1001, 10].map iv) := by rw [hW7]; exact RowAt.new _ _ _
        have HAM := Lib.hid (among_any HX.out (some ⟨w6.heap.size, 0, none⟩) 4 [0, 1000, 1001, 10] hr7.cells (by simp) (fun b o e => by cases e; omega) (fstep f6 hf7) hr (by omega) (by omega) (by simp) (HC6.out.keep hf7))
        have HW7 := Lib.hid hW7
        have HF7 := Lib.hid hf7
        clear hW7 hf7 hr7
        go_wp2_with fail
        rw [← HW7.out]
        refine (HAM.out).mono ?_; rintro e w8 ⟨z, n8, hz, rfl, a8, b8, hc8, hg8⟩
        have HC8 := Lib.hid hc8
        have HG8 := Lib.hid (grownTrans (grownTrans HG6.out (grownFresh HF7.out _)) hg8)
        have hb8 := (HB6.out.keep HF7.out).grown hg8 (by omega)
        have hr8 := (HR6.out.keep HF7.out).grown hg8 hgr
        have k0 := hb8.cell (i := 1) rfl
        have k1 := hb8.frozen 1
        have HB9 := Lib.hid (hb8.set 1 (iv z))
        have HR9 := Lib.hid (hr8.setOther (show w.heap.size ≠ w4.heap.size by omega) (o := 1) (iv z))
        have HC9 := Lib.hid (Cur.grown HC8.out (grownSet _ w4.heap.size 1 (iv z)) (show r ≠ w4.heap.size by omega))
        have HG9 := Lib.hid (grownOwn HG8.out (grownSet _ w4.heap.size 1 (iv z)) (by omega))
        clear hc8 hg8 hb8 hr8 hz HAM
        have rb := HB9.out
        have rr := HR9.out
        have t0 := rb.cell (i := 0) rfl
        have t1 := rb.cell (i := 1) rfl
        have ro := base8 (o := 0) (m := m) (by omega)
        obtain ⟨oa, hoa⟩ := ro (i * 2) (by omega)
        obtain ⟨ob, hob⟩ := ro (i * 2 + 1) (by omega)
        have v0 := rr.cell hoa
        have v1 := rr.cell hob
        have y0 := rr.frozen (i * 2)
        have y1 := rr.frozen (i * 2 + 1)
        try rw [Nat.zero_add] at v0 v1
        try rw [← Nat.add_assoc] at v1
        have hrow := (rr.set (i * 2) (iv a)).set (i * 2 + 1) (iv z)
        have hfin := Lib.hid hrow
        have hgg := Lib.hid (grownOwn (grownOwn HG9.out (grownSet _ w.heap.size (i * 2) (iv a)) (Nat.le_refl _)) (grownSet _ w.heap.size (i * 2 + 1) (iv z)) (Nat.le_refl _))
        have hcc := Lib.hid (Cur.grown (Cur.grown HC9.out (grownSet _ w.heap.size (i * 2) (iv a)) (Ne.symm hgr)) (grownSet _ w.heap.size (i * 2 + 1) (iv z)) (Ne.symm hgr))
        clear rb rr hrow hoa hob ro
        go_wp2
        go_ret
        exact ⟨_, n8, rfl, ⟨w.heap.size, 0, m, 4, _, rfl, hgr, by omega, hfin.out, ((base8 (by omega)).set _ _).set _ _⟩, by omega, by omega, hcc.out, hgg.out⟩
      by_cases c2 : x6 = 2
      · have ca : (x6 == 0) = false := by simp [c0]
        have cb : (x6 == 1) = false := by simp [c1]
        have cc : (x6 == 2) = true := by simp [c2]
        go_wp2
        go_ret
        exact ⟨_, n6, rfl, ⟨w6.heap.size, 0, 0, 0, [], rfl, by omega, by omega, RowAt.new w6 _ [], fun j hj => by omega⟩, by omega, by omega, HC6.out.keep (fnew (frefl _) _), grownTrans HG6.out (grownFresh (fnew (frefl _) _) _)⟩
      have ca : (x6 == 0) = false := by simp [c0]
      have cb : (x6 == 1) = false := by simp [c1]
      have cc : (x6 == 2) = false := by simp [c2]
      by_cases c3 : x6 = 3
      · have cd : (x6 == 3) = true := by simp [c3]
        have hcs8 : ([iv 3000, iv 10, iv 1200, iv 20, iv 600, iv 40, iv 250, iv 80] : List Value).length = 8 := rfl
        have HI := Lib.hid (base8 (o := 0) (m := m) (by omega))
        have HF6 := Lib.hid f6
        clear f6
        go_wp2
        go_loopw [3, 6] (fun l k wr => ∃ (g of mm cc K : Nat) (cs : List Value) (nn : Int), l = .slice (some ⟨g, of, none⟩) mm cc ∧ k = .int .i64 K ∧ K < mm ∧ mm ≤ 7 ∧ g ≠ r ∧ w.heap.size ≤ g ∧ RowAt wr g 55 cs ∧ AllI cs of mm ∧ of + cc * 2 ≤ cs.length ∧ mm ≤ cc ∧ n ≤ nn ∧ nn ≤ n + 20 + 2 * (K : Int) ∧ Cur wr r (.slice p xs.length cap) nn ∧ Fresh W0 wr ∧ w.grownBy wr (some r)) (fun _ k _ => 8 - (intOf k).toNat)
        case atStart => exact ⟨w.heap.size, 0, m, 4, 0, _, n6, rfl, rfl, by omega, by omega, hgr, Nat.le_refl _, HR6.out, HI.out, by omega, by omega, by omega, by omega, HC6.out, HF6.out, HG6.out⟩
        case round =>
          obtain ⟨g, of, mm, cc, K, cs, nn, rfl, rfl, hK, hmm, hgr2, hgw, hrow, hI, hcl, hmc, hn1, hn2, hcu, hfw, hgb⟩ := hrel
          have HCU := Lib.hid hcu
          have HFW := Lib.hid hfw
          have HGB := Lib.hid hgb
          have HRW := Lib.hid hrow
          have HII := Lib.hid hI
          clear hcu hgb hrow hI
          go_wp2_with fail
          refine (pick_any HX.out 2 hfw hr (by omega) (by omega) (by omega) HCU.out).mono ?_; rintro e w9 ⟨x9, n9, ⟨p9, q9⟩, rfl, a9, b9, hc9, hg9⟩
          have f9 := freshGrown hfw hg9 hr
          have HC9 := Lib.hid hc9
          have HG9 := Lib.hid (grownTrans HGB.out hg9)
          have HR9 := Lib.hid (HRW.out.grown hg9 hgr2)
          have HF9 := Lib.hid f9
          clear hc9 hg9 f9 hfw
          have e6 : IntKind.i64.wrap (6 + x9) = 6 + x9 := by rw [IntKind.wrap_i64]; omega
          by_cases hlt : (mm : Int) < 6 + x9
          · have e7 : IntKind.i64.wrap (10 * (K : Int)) = 10 * (K : Int) := by rw [IntKind.wrap_i64]; omega
            have e8 : IntKind.i64.wrap (200 - 10 * (K : Int)) = 200 - 10 * (K : Int) := by rw [IntKind.wrap_i64]; omega
            have e9 : IntKind.i64.wrap (90 + (K : Int)) = 90 + (K : Int) := by rw [IntKind.wrap_i64]; omega
            have hsz9 : w.heap.size ≤ w9.heap.size := HG9.out.size
            go_wp2_with (at_builtin; refine wpList_app_fm w.heap.size w9 g of mm cc cs (200 - 10 * (K : Int)) (90 + (K : Int)) rfl _ _ rfl rfl HR9.out HII.out hcl hmc (by omega) rfl hsz9 hgw ?_; intro g2 of2 cc2 cs2 w10 hr10 hi10 hl10 hc10 hb10 hg10 hgb10)
            have hne : r ≠ g := fun e => hgr2 e.symm
            have hg2r : g2 ≠ r := by rcases hg10 with h | h; (· omega); (· have := HC9.out; obtain ⟨_, hh⟩ := this; have := hh.lt; omega)
            have HR10 := Lib.hid hr10
            have HI10 := Lib.hid hi10
            have HC10 := Lib.hid (Cur.grown HC9.out hgb10 hne)
            have HG10 := Lib.hid (grownOwn HG9.out hgb10 hgw)
            have HF10 := Lib.hid (freshGrown HF9.out hgb10 (Nat.le_trans hw0 hgw))
            clear hr10 hi10 hgb10 e6 e7 e8 e9
            go_wp2
            go_roundw
            case rel => exact ⟨g2, of2, mm + 1, cc2, K + 1, cs2, n9, rfl, by go_num, by omega, by omega, hg2r, hb10, HR10.out, HI10.out, hl10, hc10, by omega, by omega, HC10.out, HF10.out, HG10.out⟩
            case measure => simp [intOf]; omega
          · go_wp2
            go_ret
            exact ⟨_, n9, rfl, ⟨g, of, mm, cc, cs, rfl, hgr2, by omega, HR9.out, HII.out⟩, by omega, by omega, HC9.out, HG9.out⟩
      · have cd : (x6 == 3) = false := by simp [c3]
        have rb := HB6.out
        have rr := HR6.out
        have t0 := rb.cell (i := 0) rfl
        have t1 := rb.cell (i := 1) rfl
        have ro := base8 (o := 0) (m := m) (by omega)
        obtain ⟨oa, hoa⟩ := ro (i * 2) (by omega)
        obtain ⟨ob, hob⟩ := ro (i * 2 + 1) (by omega)
        have v0 := rr.cell hoa
        have v1 := rr.cell hob
        have y0 := rr.frozen (i * 2)
        have y1 := rr.frozen (i * 2 + 1)
        try rw [Nat.zero_add] at v0 v1
        try rw [← Nat.add_assoc] at v1
        have hrow := (rr.set (i * 2) (iv a)).set (i * 2 + 1) (iv b)
        have hfin := Lib.hid hrow
        have hgg := Lib.hid (grownOwn (grownOwn HG6.out (grownSet _ w.heap.size (i * 2) (iv a)) (Nat.le_refl _)) (grownSet _ w.heap.size (i * 2 + 1) (iv b)) (Nat.le_refl _))
        have hcc := Lib.hid (Cur.grown (Cur.grown HC6.out (grownSet _ w.heap.size (i * 2) (iv a)) (Ne.symm hgr)) (grownSet _ w.heap.size (i * 2 + 1) (iv b)) (Ne.symm hgr))
        clear rb rr hrow hoa hob ro
        go_wp2
        go_ret
        exact ⟨_, n6, rfl, ⟨w.heap.size, 0, m, 4, _, rfl, hgr, by omega, hfin.out, ((base8 (by omega)).set _ _).set _ _⟩, by omega, by omega, hcc.out, hgg.out⟩
end Go.Proofs.Ytnhjacaiggghnaa
