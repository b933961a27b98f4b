/- Contracts: a first route with no partner, both sides. -/
import Derived.Test.YtlapicgeokjpjaaGreatCt2
namespace Go.Proofs.YtlapicgeokjpjaaGreat
open Go.RowKit Go.PlainAid

def rtV : Option LR → Value
  | some y => .agg #[.int .i64 y.start, .slice y.q y.fibs.length y.cap]
  | none => .agg #[.int .i64 0, .slice none 0 0]
theorem rtV_shape (o : Option LR) : ∃ a q m c, rtV o = .agg #[.int .i64 a, .slice q m c] := by
  cases o with
  | none => exact ⟨_, _, _, _, rfl⟩
  | some y => exact ⟨_, _, _, _, rfl⟩
theorem find_at {α : Type} {l : List α} {P : α → Bool} {j : Nat} {x : α} (h : ∀ m y, m < j → l[m]? = some y → P y = false) (hx : l[j]? = some x) (hp : P x = true) : l.find? P = some x := by
  induction l generalizing j with
  | nil => simp at hx
  | cons a l ih =>
    cases j with
    | zero =>
      simp only [List.getElem?_cons_zero, Option.some.injEq] at hx
      subst hx
      exact List.find?_cons_of_pos hp
    | succ j =>
      rw [List.find?_cons_of_neg (by rw [h 0 a (by omega) rfl]; simp)]
      exact ih (j := j) (fun m y hm hy => h (m + 1) y (by omega) (by simpa using hy)) (by simpa using hx)
theorem find_no {α : Type} {l : List α} {P : α → Bool} (h : ∀ m y, m < l.length → l[m]? = some y → P y = false) : l.find? P = none := by
  rw [List.find?_eq_none]
  intro x hx
  obtain ⟨m, hm⟩ := List.getElem?_of_mem hx
  rw [h m x (List.getElem?_eq_some_iff.1 hm).1 hm]; simp
set_option maxHeartbeats 4000000 in
set_option maxRecDepth 20000 in
theorem partner_any (v : Value) (n : Net) (s t kind : Int) (p : Option Addr) (c : Nat) (l : List LR) (qa : Option Addr) (ca : Nat) (a : List Int) (base : Nat) (w : World) (hN : NetIn w v n) (hnet : netB n = true) (hs : 0 ≤ s ∧ s < (n.nodes.length : Int)) (hk : 1 ≤ kind ∧ kind ≤ 3) (hl : ∀ x ∈ l, x.start = s ∧ RtGood n s t x.fibs) (_hlen : l.length ≤ 1048576)
    (hr : Rts w base (.slice p l.length c) l) (ga : RtGood n s t a) (ha : Ints w qa a) :
    Calls Tryz.prog 43 #[v, .slice p l.length c, .agg #[.int .i64 s, .slice qa a.length ca], .int .i64 kind] w fun e w' => e = .returned (.tuple #[rtV (l.find? fun y => disjB n s a y.fibs kind), .bool (l.find? fun y => disjB n s a y.fibs kind).isSome]) ∧ Fresh w w' := by
  have HN := Lib.hid hN
  have HNET := Lib.hid hnet
  have HS := Lib.hid hs
  have HL := Lib.hid hl
  have HR := Lib.hid hr
  have HKD := Lib.hid hk
  have HA := Lib.hid ha
  have HGA := Lib.hid ga
  obtain ⟨qn, cn, pn, cpn, rfl, _, _, n1, _, _, _, _⟩ := hN
  obtain ⟨W3, hW3, hsz3, hf3, r1, r2, r3⟩ := three_rows w [.slice qn n.nodes.length cn, .slice pn n.fibers.length cpn] [.int .i64 s, .slice qa a.length ca] [.int .i64 0, .slice none 0 0] 27 39 39
  have HF3 := Lib.hid hf3
  have HW3 := Lib.hid hW3
  have HR1 := Lib.hid r1
  have HR2 := Lib.hid r2
  have HR3 := Lib.hid r3
  clear hnet hs hl hr hk ha ga hW3 hf3 r1 r2 r3
  go_enter Tryz.func43, Tryz.ntmps43
  go_wp2
  rw [← HW3.out]
  go_loopw [14] (fun i wr => ∃ j : Nat, j ≤ l.length ∧ i = .int .i64 j ∧ (∀ m y, m < j → l[m]? = some y → disjB n s a y.fibs kind = false) ∧ Fresh W3 wr) (fun i _ => l.length - (intOf i).toNat)
  case atStart => exact ⟨0, Nat.zero_le _, rfl, fun m y h => by omega, frefl _⟩
  case round =>
    obtain ⟨j, hj, rfl, hno, hf⟩ := hrel
    have HNO := Lib.hid hno
    have HF := Lib.hid hf
    clear hno
    by_cases hlt : j < l.length
    · have hltz : (j : Int) < (l.length : Int) := by omega
      obtain ⟨y, hy⟩ : ∃ y, l[j]? = some y := ⟨l[j], List.getElem?_eq_getElem hlt⟩
      have HY := Lib.hid hy
      have hri := HR.out.keep (fstep HF3.out hf)
      have HRI := Lib.hid hri
      obtain ⟨_, _, hpe, hown, _, _⟩ := owns_cap hri.row
      cases hpe
      rcases hown.cells with hnil | ⟨b, off, rfl, hcl⟩
      · exfalso
        have := congrArg List.length hnil
        rw [flat_len lrC 2 (fun _ => rfl)] at this
        simp at this; omega
      have d0 := hcl (j * 2 + 0) _ (flat_get lrC 2 (fun _ => rfl) l j 0 (by omega) y hy)
      have d1 := hcl (j * 2 + 1) _ (flat_get lrC 2 (fun _ => rfl) l j 1 (by omega) y hy)
      rw [Nat.add_zero] at d0
      rw [← Nat.add_assoc] at d1
      have hyg := HL.out y (List.mem_of_getElem? hy)
      obtain ⟨W4, hW4⟩ : ∃ W, W = wr.alloc (.cells #[.int .i64 y.start, .slice y.q y.fibs.length y.cap] 39) := ⟨_, rfl⟩
      have hf4 : Fresh wr W4 := by rw [hW4]; exact fnew (frefl _) _
      have hr4 : RowAt W4 wr.heap.size 39 [.int .i64 y.start, .slice y.q y.fibs.length y.cap] := by rw [hW4]; exact RowAt.new _ _ _
      have HF4 := Lib.hid (fstep HF.out hf4)
      have HR4 := Lib.hid hr4
      have HW4 := Lib.hid hW4
      have a0 := fun o : Obj => fkeep (fnew (frefl wr) o) ((HR2.out.keep hf).cell (i := 0) rfl)
      have a1 := fun o : Obj => fkeep (fnew (frefl wr) o) ((HR2.out.keep hf).cell (i := 1) rfl)
      have n0 := fun o : Obj => fkeep (fnew (frefl wr) o) ((HR1.out.keep hf).cell (i := 0) rfl)
      have n1' := fun o : Obj => fkeep (fnew (frefl wr) o) ((HR1.out.keep hf).cell (i := 1) rfl)
      have HDJ : Hid (Calls Tryz.prog 39 #[.agg #[.slice qn n.nodes.length cn, .slice pn n.fibers.length cpn], .agg #[.int .i64 s, .slice qa a.length ca], .agg #[.int .i64 y.start, .slice y.q y.fibs.length y.cap], .int .i64 kind] W4 fun e w' => e = .returned (.bool (disjB n s a y.fibs kind)) ∧ Fresh W4 w') := by
        have := disjoint_any _ n s t qa y.q ca y.cap a y.fibs kind W4 ((HN.out.keep HF3.out).keep HF4.out) HNET.out HS.out HKD.out HGA.out hyg.2 ((HA.out.keep HF3.out).keep HF4.out) ((HRI.out.fib y (List.mem_of_getElem? HY.out)).keep hf4).ints
        rw [hyg.1]
        exact this
      clear hy hown hcl hyg hf4 hr4 hW4 hri hf
      cases hd : disjB n s a y.fibs kind
      · have HNO2 : Hid (∀ m y, m < j + 1 → l[m]? = some y → disjB n s a y.fibs kind = false) := by
          intro m z h1 h2
          rcases Nat.eq_or_lt_of_le (show m ≤ j by omega) with h4 | h4
          · subst h4
            rw [HY.out] at h2
            cases h2; exact hd
          · exact HNO.out m z h4 h2
        rw [hd] at HDJ
        clear hd
        go_wp2_with fail
        rw [← HW4.out]
        refine (HDJ.out).mono ?_
        rintro e w5 ⟨rfl, hf5⟩
        have HF5 := Lib.hid (fstep HF4.out hf5)
        clear hf5 a0 a1 n0 n1' d0 d1
        go_wp2
        go_roundw
        case rel => exact ⟨j + 1, by omega, by go_num, HNO2.out, HF5.out⟩
        case measure => simp [intOf]; omega
      · have HFD : Hid ((l.find? fun y => disjB n s a y.fibs kind) = some y) := find_at HNO.out HY.out hd
        rw [hd] at HDJ
        clear hd
        go_wp2_with fail
        rw [← HW4.out]
        refine (HDJ.out).mono ?_
        rintro e w5 ⟨rfl, hf5⟩
        have HF5 := Lib.hid (fstep HF4.out hf5)
        have e0 := (HR4.out.keep hf5).cell (i := 0) rfl
        have e1 := (HR4.out.keep hf5).cell (i := 1) rfl
        have hz := HR3.out.keep HF5.out
        have z0 := hz.cell (i := 0) rfl
        have z1 := hz.cell (i := 1) rfl
        have u0 := hz.frozen 0
        have u1 := hz.frozen 1
        have hfin := (hz.set 0 (.int .i64 y.start)).set 1 (.slice y.q y.fibs.length y.cap)
        have k0 := hfin.cell (i := 0) rfl
        have k1 := hfin.cell (i := 1) rfl
        clear hf5 a0 a1 n0 n1' d0 d1 hz hfin
        go_wp2
        refine bodyPost_ret (v := .tuple #[.agg #[.int .i64 y.start, .slice y.q y.fibs.length y.cap], .bool true]) (by simp [results, Tryz.results43, go_sem, k0, k1]) rfl ?_
        rw [HFD.out]
        exact ⟨rfl, fset (fset (fstep HF3.out HF5.out) (by omega) _) (by omega) _⟩
    · have hjn : j = l.length := by omega
      have hltz : ¬ (j : Int) < (l.length : Int) := by omega
      have HFD : Hid ((l.find? fun y => disjB n s a y.fibs kind) = none) := find_no (by rw [← hjn]; exact HNO.out)
      have hz := HR3.out.keep hf
      have z0 := hz.cell (i := 0) rfl
      have z1 := hz.cell (i := 1) rfl
      have u0 := hz.frozen 0
      have u1 := hz.frozen 1
      have hfin := (hz.set 0 (.int .i64 0)).set 1 (.slice none 0 0)
      have k0 := hfin.cell (i := 0) rfl
      have k1 := hfin.cell (i := 1) rfl
      clear hf hz hfin hjn
      go_wp2
      refine bodyPost_ret (v := .tuple #[.agg #[.int .i64 0, .slice none 0 0], .bool false]) (by simp [results, Tryz.results43, go_sem, k0, k1]) rfl ?_
      rw [HFD.out]
      exact ⟨rfl, fset (fset (fstep HF3.out HF.out) (by omega) _) (by omega) _⟩
def firstP : List (Nat × Nat) → Bool
  | [] => false
  | x :: _ => decide (0 < x.1)
theorem mem_toI {d : Nat → Nat → Bool} {N i : Nat} {x : Nat × Nat} : x ∈ toI d N i ↔ x.1 < i ∧ x.1 < x.2 ∧ x.2 < N ∧ d x.1 x.2 = true := by
  unfold toI rowI
  simp only [List.mem_flatMap, List.mem_range, List.mem_map, List.mem_filter, Bool.and_eq_true, decide_eq_true_eq]
  constructor
  · rintro ⟨m, h1, k, ⟨h2, h3, h4⟩, rfl⟩
    exact ⟨h1, h3, h2, h4⟩
  · rintro ⟨h1, h2, h3, h4⟩
    exact ⟨x.1, h1, x.2, ⟨h3, h2, h4⟩, rfl⟩
theorem toI_head (d : Nat → Nat → Bool) {N i : Nat} (h : 0 < i) : ∃ r, toI d N i = rowI d 0 N ++ r := by
  unfold toI
  obtain ⟨i, rfl⟩ : ∃ k, i = k + 1 := ⟨i - 1, by omega⟩
  rw [List.range_succ_eq_map, List.flatMap_cons]
  exact ⟨_, rfl⟩
theorem trap_law {d : Nat → Nat → Bool} {N : Nat} (h0 : d 0 0 = false) (hne : toI d N N ≠ []) : firstP (toI d N N) = !((List.range N).any fun k => d 0 k) := by
  have hN : 0 < N := by
    rcases Nat.eq_zero_or_pos N with h | h
    · subst h; exact absurd rfl hne
    · exact h
  cases ha : (List.range N).any fun k => d 0 k
  · match hL : toI d N N, hne with
    | x :: r, _ =>
      have hx : x ∈ toI d N N := by rw [hL]; simp
      obtain ⟨h1, h2, h3, h4⟩ := mem_toI.1 hx
      unfold firstP
      rw [Bool.not_false, decide_eq_true_eq]
      rcases Nat.eq_zero_or_pos x.1 with h5 | h5
      · rw [List.any_eq_false] at ha
        rw [h5] at h4
        exact absurd h4 (ha x.2 (List.mem_range.2 h3))
      · exact h5
  · rw [List.any_eq_true] at ha
    obtain ⟨k, hk, hd⟩ := ha
    have hkN := List.mem_range.1 hk
    have hk0 : 0 < k := by
      rcases Nat.eq_zero_or_pos k with h | h
      · subst h; rw [h0] at hd; cases hd
      · exact h
    obtain ⟨r, hr⟩ := toI_head d (N := N) hN
    have hm : (0, k) ∈ rowI d 0 N := by
      unfold rowI
      exact List.mem_map.2 ⟨k, List.mem_filter.2 ⟨hk, by simp [hk0, hd]⟩, rfl⟩
    have hz : ∀ y ∈ rowI d 0 N, y.1 = 0 := by
      intro y hy
      unfold rowI at hy
      obtain ⟨m, _, rfl⟩ := List.mem_map.1 hy
      rfl
    rw [hr]
    match hL : rowI d 0 N, hm with
    | x :: r', _ =>
      have := hz x (by rw [hL]; simp)
      simp [firstP, this]
theorem disj_self {n : Net} {s t k : Int} {a : List Int} (h : RtGood n s t a) : disjB n s a a k = false := by
  obtain ⟨x, hx⟩ := List.exists_mem_of_ne_nil a h.1
  unfold disjB
  split
  · unfold apartF
    rw [Bool.not_eq_false', List.any_eq_true]
    exact ⟨x, hx, List.any_eq_true.2 ⟨x, hx, by simp [sameG]⟩⟩
  · have : usesB a a = true := by
      unfold usesB
      rw [List.any_eq_true]
      exact ⟨x, hx, by simpa using hx⟩
    rw [this]; rfl
theorem find_row {n : Net} {s k : Int} {l : List LR} {x : LR} (hx : l[0]? = some x) : (l.find? fun y => disjB n s x.fibs y.fibs k).isSome = (List.range l.length).any fun m => dP n s (l.map LR.val) k 0 m := by
  rw [Bool.eq_iff_iff, List.find?_isSome, List.any_eq_true]
  constructor
  · rintro ⟨y, hy, hd⟩
    obtain ⟨m, hm⟩ := List.getElem?_of_mem hy
    exact ⟨m, List.mem_range.2 (List.getElem?_eq_some_iff.1 hm).1, by rw [dP_at hx hm]; exact hd⟩
  · rintro ⟨m, hm, hd⟩
    have hlt := List.mem_range.1 hm
    have hm' : l[m]? = some l[m] := List.getElem?_eq_getElem hlt
    rw [dP_at hx hm'] at hd
    exact ⟨l[m], List.getElem_mem hlt, hd⟩
def trapF (n : Net) (s t k : Int) : Bool × Bool := if okK n s t k then (firstP (pairsF n s t k), true) else (false, false)
end Go.Proofs.YtlapicgeokjpjaaGreat
