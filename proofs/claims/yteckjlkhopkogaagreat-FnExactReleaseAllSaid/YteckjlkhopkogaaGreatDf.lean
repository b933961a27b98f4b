/- Contracts: slices.DeleteFunc on lights of the call's own. -/
import Derived.Test.YteckjlkhopkogaaGreatMv
import Derived.Test.YteckjlkhopkogaaGreatDl2
import Derived.Test.YteckjlkhopkogaaGreatV1
namespace Go.Proofs.YteckjlkhopkogaaGreat
open Go.RowKit Go.PlainAid

abbrev zeroLt : Value := .agg #[iv 0, iv 0, .slice none 0 0, iv 0, iv 0]
/-- The cells of m lights that are zero. -/
def zsL (m : Nat) : List Value := (Builtin.zeroCells zeroLt.cells m).toList
theorem zsL_len (m : Nat) : (zsL m).length = m * 5 := by simp [zsL, Builtin.zeroCells, Value.cells]
theorem zsL_one (m : Nat) : ∀ v ∈ zsL m, v.oneCell' = true := by
  intro v hv
  simp only [zsL, Builtin.zeroCells, Value.cells, Array.toList_map, List.mem_map] at hv
  obtain ⟨i, _, rfl⟩ := hv
  have h5 : i % 5 < 5 := Nat.mod_lt _ (by decide)
  match h : i % 5, h5 with
  | 0, _ => simp []; rfl
  | 1, _ => simp []; rfl
  | 2, _ => simp []; rfl
  | 3, _ => simp []; rfl
  | 4, _ => simp []; rfl
theorem run_clear_lts (w : World) (ty : TypeId) (g o m c : Nat) (hm : 0 < m) (hc : ∀ j, j < m * 5 → (w.cell? ⟨g, o + j, none⟩).isSome = true) (hf : ∀ j, j < m * 5 → w.frozen? ⟨g, o + j, none⟩ = false) :
    (Builtin.clear_ #[36] ty #[.slice (some ⟨g, o, none⟩) m c]).run Tryz.prog w = .ok (.tuple #[]) (w.setCells g o (zsL m)) := by
  obtain ⟨i0, hi, hz0, hz1, hz2⟩ := info_parts infoLt
  have hst := run_storeCells_cells (P := Tryz.prog) g o (zsL m) 0 w (by rw [zsL_len]; simpa using hc) (by rw [zsL_len]; simpa using hf) (zsL_one m)
  simp only [Nat.add_zero] at hst
  have hv : ∀ w, (zeroValue 94).run Tryz.prog w = .ok zeroLt w := by
    intro w
    simp [zeroValue, typeInfo, hi, hz0]
  obtain ⟨k, rfl⟩ : ∃ k, m = k + 1 := ⟨m - 1, by omega⟩
  unfold zsL at hst ⊢
  simp [Builtin.clear_, run_underlying Tryz.underlying36, hv, hst]
theorem idxP_cases {α : Type} (l : List α) (f : α → Bool) : (idxP l f = -1 ∧ ∀ x ∈ l, f x = false) ∨ ∃ (k : Nat) (x : α), k < l.length ∧ idxP l f = (k : Int) ∧ l[k]? = some x ∧ f x = true ∧ ∀ y ∈ l.take k, f y = false := by
  cases e : l.findIdx? f with
  | none =>
    left
    refine ⟨by unfold idxP; rw [e], fun x hx => ?_⟩
    rw [List.findIdx?_eq_none_iff] at e
    exact e x hx
  | some k =>
    right
    have e2 := e
    rw [List.findIdx?_eq_some_iff_getElem] at e
    obtain ⟨h1, h2, h3⟩ := e
    refine ⟨k, l[k], h1, by unfold idxP; rw [e2], List.getElem?_eq_getElem h1, h2, fun y hy => ?_⟩
    obtain ⟨j, hj, rfl⟩ := List.getElem_of_mem hy
    rw [List.length_take] at hj
    rw [List.getElem_take]
    simpa using h3 j (by omega)
/-- What the row holds when j of its lights have been looked at and i of them kept. -/
structure KpInv (l : List LL) (q : LL → Bool) (i j : Nat) (M : List LL) : Prop where
  len : M.length = l.length
  lt : i < j
  le : j ≤ l.length
  kept : M.take i = (l.take j).filter fun x => !q x
  rest : ∀ t, j ≤ t → M[t]? = l[t]?
theorem KpInv.start {l : List LL} {q : LL → Bool} {k : Nat} {x : LL} (hk : k < l.length) (hx : l[k]? = some x) (hq : q x = true) (ha : ∀ y ∈ l.take k, q y = false) : KpInv l q k (k + 1) l := by
  refine ⟨rfl, by omega, hk, ?_, fun _ _ => rfl⟩
  rw [List.take_add_one, hx, List.filter_append]
  have : (l.take k).filter (fun x => !q x) = l.take k := by
    rw [List.filter_eq_self]
    intro y hy
    simp [ha y hy]
  rw [this]
  simp [hq]
theorem KpInv.skip {l M : List LL} {q : LL → Bool} {i j : Nat} {x : LL} (h : KpInv l q i j M) (hx : l[j]? = some x) (hq : q x = true) : KpInv l q i (j + 1) M := by
  refine ⟨h.len, by have := h.lt; omega, (List.getElem?_eq_some_iff.1 hx).1, ?_, fun t ht => h.rest t (by omega)⟩
  rw [List.take_add_one, hx, List.filter_append, h.kept]
  simp [hq]
theorem KpInv.keep {l M : List LL} {q : LL → Bool} {i j : Nat} {x : LL} (h : KpInv l q i j M) (hx : l[j]? = some x) (hq : q x = false) : KpInv l q (i + 1) (j + 1) (M.set i x) := by
  have hj := (List.getElem?_eq_some_iff.1 hx).1
  have hi : i < M.length := by rw [h.len]; have := h.lt; omega
  refine ⟨by rw [List.length_set]; exact h.len, by have := h.lt; omega, hj, ?_, fun t ht => ?_⟩
  · rw [List.take_add_one, List.take_set_of_le (Nat.le_refl _), List.getElem?_set_self hi, h.kept, List.take_add_one, hx, List.filter_append]
    simp [hq]
  · rw [List.getElem?_set_ne (by have := h.lt; omega)]
    exact h.rest t (by omega)
theorem KpInv.done {l M : List LL} {q : LL → Bool} {i : Nat} (h : KpInv l q i l.length M) : M.take i = l.filter fun x => !q x := by have := h.kept; rwa [List.take_length] at this
theorem lts_row {w : World} {g : Nat} {M : List LL} {sp : List Value} (h : RowAt w g 94 (M.flatMap llC ++ sp)) {t : Nat} {x : LL} (hx : M[t]? = some x) :
    w.cell? ⟨g, t * 5, none⟩ = some (iv x.id) ∧ w.cell? ⟨g, t * 5 + 1, none⟩ = some (iv x.r.start) ∧ w.cell? ⟨g, t * 5 + 2, none⟩ = some (.slice x.r.q x.r.fibs.length x.r.cap) ∧ w.cell? ⟨g, t * 5 + 3, none⟩ = some (iv x.f) ∧ w.cell? ⟨g, t * 5 + 4, none⟩ = some (iv x.c) := by
  have hl := flat_len llC 5 (fun _ => rfl) M
  have ht := (List.getElem?_eq_some_iff.1 hx).1
  refine ⟨h.cell ?_, h.cell ?_, h.cell ?_, h.cell ?_, h.cell ?_⟩
  · rw [List.getElem?_append_left (by omega)]; exact ll_get hx 0 (by omega)
  · rw [List.getElem?_append_left (by omega)]; exact ll_get hx 1 (by omega)
  · rw [List.getElem?_append_left (by omega)]; exact ll_get hx 2 (by omega)
  · rw [List.getElem?_append_left (by omega)]; exact ll_get hx 3 (by omega)
  · rw [List.getElem?_append_left (by omega)]; exact ll_get hx 4 (by omega)
theorem clear_row {M : List LL} {sp : List Value} {i : Nat} (hi : i ≤ M.length) : ∃ sp', spl (M.flatMap llC ++ sp) (i * 5) (zsL (M.length - i)) = (M.take i).flatMap llC ++ sp' := by
  have hl5 : (M.flatMap llC).length = M.length * 5 := flat_len llC 5 (fun _ => rfl) M
  have ht5 : ((M.take i).flatMap llC).length = i * 5 := by rw [flat_len llC 5 (fun _ => rfl)]; simp; omega
  refine ⟨(spl (M.flatMap llC ++ sp) (i * 5) (zsL (M.length - i))).drop (i * 5), ?_⟩
  apply List.ext_getElem?
  intro t
  rcases Nat.lt_or_ge t (i * 5) with h | h
  · rw [spl_out _ _ _ _ (Or.inl h), List.getElem?_append_left (by omega), List.getElem?_append_left (by omega)]
    have e : M.flatMap llC = (M.take i).flatMap llC ++ (M.drop i).flatMap llC := by rw [← List.flatMap_append, List.take_append_drop]
    rw [e, List.getElem?_append_left (by omega)]
  · rw [List.getElem?_append_right (by omega), ht5, List.getElem?_drop]
    congr 1; omega
theorem Srt.cells {g : Nat} {w w1 : World} (h : Srt g w w1) (vs : List Value) : ∀ o, Srt g w (w1.setCells g o vs) := by
  induction vs generalizing w1 with
  | nil => intro o; exact h
  | cons v r ih => intro o; exact ih (h.set o v) (o + 1)
/-- What is left of the row. -/
def DfOut (g cap : Nat) (F : List LL) (w : World) (e : Ending) (w' : World) : Prop := e = .returned (.slice (some ⟨g, 0, none⟩) F.length cap) ∧ (∃ sp', RowAt w' g 94 (F.flatMap llC ++ sp')) ∧ Srt g w w'
set_option maxHeartbeats 4000000 in
set_option maxRecDepth 100000 in
theorem deleteFunc_any (cl : FuncId) (cp : Array Value) (g cap : Nat) (l : List LL) (sp : List Value) (q : LL → Bool) (w : World) (hr : RowAt w g 94 (l.flatMap llC ++ sp)) (hin : ∀ x ∈ l, Ints w x.r.q x.r.fibs) (hcap : l.length ≤ cap) (_hcm : cap ≤ 9223372036854775807) (hn : l.length ≤ 1048576)
    (eg : ∀ args w, (callFunc cl args).run Tryz.prog w = .ok (.enter cl args) w)
    (hcl : ∀ x ∈ l, ∀ (w' : World), Srt g w w' → Calls Tryz.prog cl (#[llV x] ++ cp) w' fun e w'' => e = .returned (.bool (q x)) ∧ Fresh w' w'') :
    Calls Tryz.prog 54 #[.slice (some ⟨g, 0, none⟩) l.length cap, .func (.func cl) #[] cp] w (DfOut g cap (l.filter fun x => !q x) w) := by
  have hcells : Cells w (some ⟨g, 0, none⟩) (l.flatMap llC) := by
    refine Or.inr ⟨g, 0, rfl, fun j u hj => ?_⟩
    rw [Nat.zero_add]
    exact hr.cell (by rw [List.getElem?_append_left (List.getElem?_eq_some_iff.1 hj).1]; exact hj)
  have HI := Lib.hid (ltIndex_any cl (some ⟨g, 0, none⟩) cap l q cp w ⟨hcells, hin⟩ hn eg fun x hx w' hw => hcl x hx w' (Srt.fresh hw))
  have HC := Lib.hid hcl
  have HR := Lib.hid hr
  have hcase := idxP_cases l q
  obtain ⟨ix, hix⟩ : ∃ z, z = idxP l q := ⟨_, rfl⟩
  rw [← hix] at HI hcase
  clear hcl hr hcells hin hix
  rcases hcase with ⟨rfl, hall⟩ | ⟨k, x, hk, rfl, hx, hq, hbef⟩
  · have HALL := Lib.hid hall
    clear hall
    go_enter Tryz.func54, Tryz.ntmps54
    go_wp2_with fail
    refine (HI.out).mono ?_
    rintro e w1 ⟨rfl, hb⟩
    have HB := Lib.hid hb
    clear hb HI
    go_wp2
    go_ret
    have ef : (l.filter fun x => !q x) = l := by
      rw [List.filter_eq_self]
      intro y hy
      simp [HALL.out y hy]
    unfold DfOut
    rw [ef]
    exact ⟨rfl, ⟨sp, HR.out.keep HB.out⟩, Srt.fresh HB.out⟩
  · have hne : ((k : Int) == -1) = false := beq_eq_false_iff_ne.2 (by omega)
    have w1 : IntKind.i64.wrap ((k : Int) + 1) = (k : Int) + 1 := by rw [IntKind.wrap_i64] <;> omega
    have HST := Lib.hid (KpInv.start hk hx hq hbef)
    clear hx hq hbef
    go_enter Tryz.func54, Tryz.ntmps54
    go_wp2_with fail
    refine (HI.out).mono ?_
    rintro e w2 ⟨rfl, hb⟩
    have HB := Lib.hid hb
    clear hb HI
    go_wp2
    clear w1 hne
    go_loopw [5, 6] (fun vi vj wr => ∃ (i j : Nat) (M : List LL), vi = .int .i64 i ∧ vj = .int .i64 j ∧ j ≤ l.length ∧ Hid (KpInv l q i j M) ∧ RowAt wr g 94 (M.flatMap llC ++ sp) ∧ Srt g w wr) (fun _ j _ => l.length - (intOf j).toNat)
    case atStart => exact ⟨k, k + 1, l, rfl, by go_num, hk, HST.out, HR.out.keep HB.out, Srt.fresh HB.out⟩
    case round =>
      obtain ⟨i, j, M, rfl, rfl, hj, HK, hr, hs⟩ := hrel
      have hij := HK.out.lt
      have hml := HK.out.len
      by_cases hlt : j < l.length
      · have hltz : (j : Int) < (l.length : Int) := by omega
        obtain ⟨x, hx⟩ : ∃ x, l[j]? = some x := ⟨_, List.getElem?_eq_getElem hlt⟩
        have hxm : M[j]? = some x := by rw [HK.out.rest j (Nat.le_refl _)]; exact hx
        obtain ⟨c0, c1, c2, c3, c4⟩ := lts_row hr hxm
        obtain ⟨W5, hW5⟩ : ∃ W, W = wr.alloc (.cells #[iv x.id, iv x.r.start, .slice x.r.q x.r.fibs.length x.r.cap, iv x.f, iv x.c] 94) := ⟨_, rfl⟩
        have hf5 : Fresh wr W5 := by rw [hW5]; exact fnew (frefl _) _
        have HR5 := Lib.hid (hr.keep hf5)
        have HS5 := Lib.hid (hs.trans (Srt.fresh hf5))
        have hb5 : RowAt W5 wr.heap.size 94 [iv x.id, iv x.r.start, .slice x.r.q x.r.fibs.length x.r.cap, iv x.f, iv x.c] := by rw [hW5]; exact RowAt.new _ _ _
        have hgb : g ≠ wr.heap.size := by have := hr.lt; omega
        have HBX := Lib.hid hb5
        have HW5 := Lib.hid hW5
        have HCX := Lib.hid (HC.out x (List.mem_of_getElem? hx) W5 HS5.out)
        obtain ⟨qx, hqx⟩ : ∃ b, b = q x := ⟨_, rfl⟩
        rw [← hqx] at HCX
        have HQX := Lib.hid hqx
        have HX := Lib.hid hx
        clear hx hxm hf5 hr hs hb5 hW5 hqx
        go_wp2_with fail
        rw [← HW5.out]
        refine (HCX.out).mono ?_
        rintro e w6 ⟨rfl, hb⟩
        have HR6 := Lib.hid (HR5.out.keep hb)
        have HS6 := Lib.hid (HS5.out.trans (Srt.fresh hb))
        have hbx6 := HBX.out.keep hb
        clear hb HCX c0 c1 c2 c3 c4 HW5
        cases qx
        · have HK2 := Lib.hid (HK.out.keep HX.out HQX.out.symm)
          have b0 := hbx6.cell (i := 0) rfl
          have b1 := hbx6.cell (i := 1) rfl
          have b2 := hbx6.cell (i := 2) rfl
          have b3 := hbx6.cell (i := 3) rfl
          have b4 := hbx6.cell (i := 4) rfl
          obtain ⟨y, hy⟩ : ∃ y, M[i]? = some y := ⟨_, List.getElem?_eq_getElem (by omega)⟩
          obtain ⟨d0, d1, d2, d3, d4⟩ := lts_row HR6.out hy
          have z0 := HR6.out.frozen (i * 5)
          have z1 := HR6.out.frozen (i * 5 + 1)
          have z2 := HR6.out.frozen (i * 5 + 2)
          have z3 := HR6.out.frozen (i * 5 + 3)
          have z4 := HR6.out.frozen (i * 5 + 4)
          have hiz : (i : Int) < (l.length : Int) := by omega
          have w3 : IntKind.i64.wrap ((i : Int) + 1) = (i : Int) + 1 := by rw [IntKind.wrap_i64] <;> omega
          have hrow : Hid (RowAt (((((w6.setCell ⟨g, i * 5, none⟩ (iv x.id)).setCell ⟨g, i * 5 + 1, none⟩ (iv x.r.start)).setCell ⟨g, i * 5 + 2, none⟩ (.slice x.r.q x.r.fibs.length x.r.cap)).setCell ⟨g, i * 5 + 3, none⟩ (iv x.f)).setCell ⟨g, i * 5 + 4, none⟩ (iv x.c)) g 94 ((M.set i x).flatMap llC ++ sp)) := by
            show RowAt _ _ _ _
            rw [← set_row x (by omega)]
            exact ((((HR6.out.set (i * 5) _).set (i * 5 + 1) _).set (i * 5 + 2) _).set (i * 5 + 3) _).set (i * 5 + 4) _
          have hss : Hid (Srt g w (((((w6.setCell ⟨g, i * 5, none⟩ (iv x.id)).setCell ⟨g, i * 5 + 1, none⟩ (iv x.r.start)).setCell ⟨g, i * 5 + 2, none⟩ (.slice x.r.q x.r.fibs.length x.r.cap)).setCell ⟨g, i * 5 + 3, none⟩ (iv x.f)).setCell ⟨g, i * 5 + 4, none⟩ (iv x.c))) := ((((HS6.out.set _ _).set _ _).set _ _).set _ _).set _ _
          clear hy hbx6 HR6 HS6
          go_wp2
          go_roundw
          case rel => exact ⟨i + 1, j + 1, M.set i x, by go_num, by go_num, hlt, HK2.out, hrow.out, hss.out⟩
          case measure => simp [intOf]; omega
        · have HK2 := Lib.hid (HK.out.skip HX.out HQX.out.symm)
          clear hbx6
          go_wp2
          go_roundw
          case rel => exact ⟨i, j + 1, M, rfl, by go_num, hlt, HK2.out, HR6.out, HS6.out⟩
          case measure => simp [intOf]; omega
      · have hltz : ¬ (j : Int) < (l.length : Int) := by omega
        have hje : j = l.length := by omega
        have HDN : Hid (M.take i = l.filter fun x => !q x) := by have := HK.out; rw [hje] at this; exact this.done
        have hil : i < l.length := by omega
        have hcl : ∀ ty, (Builtin.clear_ #[36] ty #[.slice (some ⟨g, i * 5, none⟩) (l.length - i) (cap - i)]).run Tryz.prog wr = .ok (.tuple #[]) (wr.setCells g (i * 5) (zsL (l.length - i))) := fun ty =>
          run_clear_lts wr ty g (i * 5) (l.length - i) (cap - i) (by omega) (fun t ht => by
            have hl5 : (M.flatMap llC).length = M.length * 5 := flat_len llC 5 (fun _ => rfl) M
            have hlt2 : i * 5 + t < (M.flatMap llC ++ sp).length := by rw [List.length_append, hl5]; omega
            rw [hr.cell (List.getElem?_eq_getElem hlt2)]; rfl) (fun t _ => hr.frozen _)
        have b1 : i ≤ l.length := by omega
        have b2 : i ≤ cap := by omega
        have HR := Lib.hid hr
        have HS := Lib.hid hs
        have HML := Lib.hid hml
        have hne2 : ¬ cap = i := by omega
        clear hr hs hje hml HC
        go_wp2
        go_ret
        have hlen : (l.filter fun x => !q x).length = i := by rw [← HDN.out, List.length_take, HML.out]; omega
        obtain ⟨sp', hsp⟩ := clear_row (M := M) (sp := sp) (i := i) (by rw [HML.out]; omega)
        have hrow := row_setCells g 94 (zsL (l.length - i)) (i * 5) _ _ HR.out
        rw [← HML.out, hsp, HDN.out] at hrow
        unfold DfOut
        rw [hlen]
        refine ⟨rfl, ⟨sp', ?_⟩, HS.out.cells _ _⟩
        rw [← HML.out]; exact hrow
end Go.Proofs.YteckjlkhopkogaaGreat
