/- Contracts: all pairs of routes, the program's side (a function called with each). -/
import Derived.Test.YtlapicgeokjpjaaGreatDj2
namespace Go.Proofs.YtlapicgeokjpjaaGreat
open Go.RowKit Go.PlainAid

def rowI (d : Nat → Nat → Bool) (i k : Nat) : List (Nat × Nat) := ((List.range k).filter fun m => decide (i < m) && d i m).map fun m => (i, m)
def toI (d : Nat → Nat → Bool) (N i : Nat) : List (Nat × Nat) := (List.range i).flatMap fun m => rowI d m N
theorem rowI_succ (d : Nat → Nat → Bool) (i k : Nat) : rowI d i (k + 1) = rowI d i k ++ if decide (i < k) && d i k then [(i, k)] else [] := by
  unfold rowI
  rw [List.range_succ, List.filter_append, List.map_append]
  congr 1
  cases h : decide (i < k) && d i k <;> simp only [List.filter_cons, h, List.filter_nil] <;> rfl
theorem rowI_low (d : Nat → Nat → Bool) (i : Nat) : rowI d i (i + 1) = [] := by
  unfold rowI
  rw [List.map_eq_nil_iff, List.filter_eq_nil_iff]
  intro m hm
  have := List.mem_range.1 hm
  simp; omega
theorem rowI_none {d : Nat → Nat → Bool} {i k : Nat} (h : d i k = false) : rowI d i (k + 1) = rowI d i k := by rw [rowI_succ, h]; simp
theorem rowI_some {d : Nat → Nat → Bool} {i k : Nat} (hi : i < k) (h : d i k = true) : rowI d i (k + 1) = rowI d i k ++ [(i, k)] := by rw [rowI_succ, h]; simp [hi]
theorem toI_succ (d : Nat → Nat → Bool) (N i : Nat) : toI d N (i + 1) = toI d N i ++ rowI d i N := by unfold toI; rw [List.range_succ, List.flatMap_append]; simp
def dP (n : Net) (s : Int) (A : List (Int × List Int)) (kind : Int) (i k : Nat) : Bool := match A[i]?, A[k]? with | some X, some Y => disjB n s X.2 Y.2 kind | _, _ => false
theorem dP_at {n : Net} {s kind : Int} {l : List LR} {i k : Nat} {x y : LR} (hx : l[i]? = some x) (hy : l[k]? = some y) : dP n s (l.map LR.val) kind i k = disjB n s x.fibs y.fibs kind := by
  unfold dP; rw [List.getElem?_map, List.getElem?_map, hx, hy]; rfl
/-- Rows below lo and from hi on stay. -/
def Kp (lo hi : Nat) (w w' : World) : Prop := ∀ g t cs, RowAt w g t cs → (g < lo ∨ hi ≤ g) → RowAt w' g t cs
theorem Kp.refl (lo hi : Nat) (w : World) : Kp lo hi w w := fun _ _ _ h _ => h
theorem Kp.trans {lo hi : Nat} {a b c : World} (h : Kp lo hi a b) (k : Kp lo hi b c) : Kp lo hi a c := fun g t cs hr n => k g t cs (h g t cs hr n) n
theorem Kp.fresh {lo hi : Nat} {a b : World} (h : Fresh a b) : Kp lo hi a b := fun _ _ _ hr _ => hr.keep h
theorem Kp.owns {lo hi base size n : Nat} {E : TypeId} {v : Value} {xs : List Value} {a b : World} (k : Kp lo hi a b) (h : a.ownsRow base E size v n xs) (hs : a.heap.size ≤ lo) : b.ownsRow base E size v n xs := by
  obtain ⟨hl, h | ⟨g, cap, cur, hv, hg, hh, r⟩⟩ := h
  · exact ⟨hl, Or.inl h⟩
  · have hr : RowAt a g E cur.toList := by unfold RowAt; rw [Array.toArray_toList]; exact hh
    have := k g E _ hr (Or.inl (Nat.lt_of_lt_of_le hr.lt hs))
    unfold RowAt at this
    rw [Array.toArray_toList] at this
    exact ⟨hl, Or.inr ⟨g, cap, cur, hv, hg, this, r⟩⟩
theorem Kp.own {lo hi base : Nat} {t : TypeId} {q : Option Addr} {xs : List Value} {a b : World} (k : Kp lo hi a b) (h : Own a base t q xs) (hs : a.heap.size ≤ lo) : Own b base t q xs := by
  rcases h with h | ⟨g, sp, h1, h2, h3⟩
  · exact Or.inl h
  · exact Or.inr ⟨g, sp, h1, h2, k _ _ _ h3 (Or.inl (Nat.lt_of_lt_of_le h3.lt hs))⟩
theorem Kp.rts {lo hi base : Nat} {V : Value} {l : List LR} {a b : World} (k : Kp lo hi a b) (h : Rts a base V l) (hs : a.heap.size ≤ lo) : Rts b base V l := ⟨k.owns h.row hs, fun x hx => k.own (h.fib x hx) hs, h.dist, h.cap⟩
set_option maxHeartbeats 4000000 in
set_option maxRecDepth 20000 in
theorem pairs_any (w0 wa : World) (lo hi base : Nat) (Inv : List (Nat × Nat) → World → Prop) (cl : FuncId) (cp : Array Value) (v : Value) (n : Net) (s t kind : Int) (p : Option Addr) (c : Nat) (l : List LR)
    (hN : NetIn w0 v n) (hnet : netB n = true) (hs : 0 ≤ s ∧ s < (n.nodes.length : Int)) (hk : 1 ≤ kind ∧ kind ≤ 3) (hl : ∀ x ∈ l, x.start = s ∧ RtGood n s t x.fibs) (hlen : l.length ≤ 1048576)
    (eg : ∀ args w, (callFunc cl args).run Tryz.prog w = .ok (.enter cl args) w)
    (hfr : ∀ L w, Inv L w → Fresh w0 w) (hkeep : ∀ L w w', Inv L w → Fresh w w' → Inv L w')
    (hr : Rts wa base (.slice p l.length c) l) (hsz : wa.heap.size ≤ lo)
    (hv : ∀ L i k x y w, i < k → l[i]? = some x → l[k]? = some y → Inv L w → Rts w base (.slice p l.length c) l → Calls Tryz.prog cl (#[.agg #[.int .i64 x.start, .slice x.q x.fibs.length x.cap], .agg #[.int .i64 y.start, .slice y.q y.fibs.length y.cap]] ++ cp) w fun e w' => e = .returned (.tuple #[]) ∧ Inv (L ++ [(i, k)]) w' ∧ Kp lo hi w w')
    (w : World) (hi0 : Inv [] w) (hka : Kp lo hi wa w) (hhi : hi ≤ w.heap.size) :
    Calls Tryz.prog 30 #[v, .slice p l.length c, .int .i64 kind, .func (.func cl) #[] cp] w fun e w' => e = .returned (.tuple #[]) ∧ Inv (toI (dP n s (l.map LR.val) kind) l.length l.length) w' ∧ Kp lo hi w w' := by
  have HN := Lib.hid hN
  have HNET := Lib.hid hnet
  have HS := Lib.hid hs
  have HL := Lib.hid hl
  have HFR := Lib.hid hfr
  have HKEEP := Lib.hid hkeep
  have HR := Lib.hid hr
  have HV := Lib.hid hv
  have HKA := Lib.hid hka
  have HKD := Lib.hid hk
  obtain ⟨qn, cn, pn, cpn, rfl, _, _, n1, _, _, _, _⟩ := hN
  obtain ⟨p', c', hpc, hown, hlc, hcm⟩ := owns_cap hr.row
  cases hpc
  obtain ⟨W2, hW2⟩ : ∃ W, W = w.alloc (.cells #[.slice qn n.nodes.length cn, .slice pn n.fibers.length cpn] 27) := ⟨_, rfl⟩
  have hf2 : Fresh w W2 := by rw [hW2]; exact fnew (frefl _) _
  have hr2 : RowAt W2 w.heap.size 27 [.slice qn n.nodes.length cn, .slice pn n.fibers.length cpn] := by rw [hW2]; exact RowAt.new _ _ _
  have HF2 := Lib.hid hf2
  have HR2 := Lib.hid hr2
  have HW2 := Lib.hid hW2
  have HI0 := Lib.hid (hkeep _ _ _ hi0 hf2)
  clear hnet hs hl hfr hkeep hr hv hka hk hown hW2 hi0 hr2 hf2
  go_enter Tryz.func30, Tryz.ntmps30
  go_wp2
  rw [← HW2.out]
  go_loopw [14] (fun i wr => ∃ j : Nat, j ≤ l.length ∧ i = .int .i64 j ∧ Inv (toI (dP n s (l.map LR.val) kind) l.length j) wr ∧ Kp lo hi W2 wr) (fun i _ => l.length - (intOf i).toNat)
  case atStart => exact ⟨0, Nat.zero_le _, rfl, HI0.out, Kp.refl _ _ _⟩
  case round =>
    obtain ⟨i, hi', rfl, hinv, hkp⟩ := hrel
    obtain ⟨wo, rfl⟩ : ∃ W, W = wr := ⟨_, rfl⟩
    have HINV := Lib.hid hinv
    have HKP := Lib.hid hkp
    have HRW : Hid (Rts wo base (.slice p l.length c) l) := (HKA.out.trans (Kp.trans (Kp.fresh HF2.out) hkp)).rts HR.out hsz
    clear hinv hkp
    by_cases hlt : i < l.length
    · have hltz : (i : Int) < (l.length : Int) := by omega
      obtain ⟨_, _, hpe, hown, _, _⟩ := owns_cap HRW.out.row
      cases hpe
      rcases hown with ⟨_, h0⟩ | ⟨g, sp, rfl, hg, hrow⟩
      · exfalso
        have := congrArg List.length h0
        rw [flat_len lrC 2 (fun _ => rfl)] at this
        simp at this; omega
      obtain ⟨x, hx⟩ : ∃ x, l[i]? = some x := ⟨l[i], List.getElem?_eq_getElem hlt⟩
      have d0 := (show RowAt wo g _ (l.flatMap lrC ++ sp) from hrow).cell (i := i * 2) (v := iv x.start) (by rw [List.getElem?_append_left (by rw [flat_len lrC 2 (fun _ => rfl)]; omega)]; exact flat_get lrC 2 (fun _ => rfl) l i 0 (by omega) x hx)
      have d1 := (show RowAt wo g _ (l.flatMap lrC ++ sp) from hrow).cell (i := i * 2 + 1) (v := .slice x.q x.fibs.length x.cap) (by rw [List.getElem?_append_left (by rw [flat_len lrC 2 (fun _ => rfl)]; omega)]; exact flat_get lrC 2 (fun _ => rfl) l i 1 (by omega) x hx)
      have HX := Lib.hid hx
      have hw1 : IntKind.i64.wrap ((i : Int) + 1) = (i : Int) + 1 := by rw [IntKind.wrap_i64]; omega
      have ht1 : ((i : Int) + 1).toNat = i + 1 := by omega
      obtain ⟨W3, hW3⟩ : ∃ W, W = wo.alloc (.cells #[.int .i64 x.start, .slice x.q x.fibs.length x.cap] 39) := ⟨_, rfl⟩
      have hf3 : Fresh wo W3 := by rw [hW3]; exact fnew (frefl _) _
      have hr3 : RowAt W3 wo.heap.size 39 [.int .i64 x.start, .slice x.q x.fibs.length x.cap] := by rw [hW3]; exact RowAt.new _ _ _
      have HF3 := Lib.hid hf3
      have HR3 := Lib.hid hr3
      have HW3 := Lib.hid hW3
      have hhr : hi ≤ wo.heap.size := by have := (HKP.out _ _ _ HR2.out (Or.inr hhi)).lt; omega
      obtain ⟨A, hA⟩ : ∃ A, A = if c = i + 1 then (some (⟨g, 0, none⟩ : Addr)) else some ⟨g, (i + 1) * 2, none⟩ := ⟨_, rfl⟩
      have HCA : Hid (∀ W, Own W base 39 (some ⟨g, 0, none⟩) (l.flatMap lrC) → Cells W A ((l.drop (i + 1)).flatMap lrC)) := fun W hW => by rw [hA]; exact partR_b (by omega) hlc hW
      have hA' := hA.symm
      have b1 : i + 1 ≤ c := by omega
      have b2 : i + 1 ≤ l.length := by omega
      have b3 : (i : Int) + 1 ≤ (l.length : Int) := by omega
      have b4 : (i : Int) + 1 ≤ (c : Int) := by omega
      clear hx hrow hf3 hr3 hW3 hA
      go_wp2
      rw [← HW3.out]
      clear d0 d1 hw1 ht1 hA' b1 b3 b4 hltz
      go_loopw [24] (fun k wr => ∃ m : Nat, m ≤ l.length - (i + 1) ∧ k = .int .i64 m ∧ Inv (toI (dP n s (l.map LR.val) kind) l.length i ++ rowI (dP n s (l.map LR.val) kind) i (i + 1 + m)) wr ∧ Kp lo hi W3 wr) (fun k _ => l.length - (i + 1) - (intOf k).toNat)
      case atStart => exact ⟨0, Nat.zero_le _, rfl, by rw [Nat.add_zero, rowI_low, List.append_nil]; exact HKEEP.out _ _ _ HINV.out HF3.out, Kp.refl _ _ _⟩
      case round =>
        obtain ⟨m, hm, rfl, hinv, hkp⟩ := hrel
        have HI2 := Lib.hid hinv
        have HK2 := Lib.hid hkp
        have hri : Rts wr base (.slice (some ⟨g, 0, none⟩) l.length c) l := (Kp.trans (HKA.out.trans ((Kp.fresh HF2.out).trans (HKP.out.trans (Kp.fresh HF3.out)))) hkp).rts HR.out hsz
        have HRI := Lib.hid hri
        have hsz2 : hi ≤ W2.heap.size := Nat.le_trans hhi HF2.out.size
        have hrn : RowAt wr w.heap.size 27 [.slice qn n.nodes.length cn, .slice pn n.fibers.length cpn] := hkp _ _ _ ((HKP.out _ _ _ HR2.out (Or.inr hhi)).keep HF3.out) (Or.inr hhi)
        have hra : RowAt wr wo.heap.size 39 [.int .i64 x.start, .slice x.q x.fibs.length x.cap] := hkp _ _ _ HR3.out (Or.inr hhr)
        clear hinv
        by_cases hlt2 : m < l.length - (i + 1)
        · have hltz : (m : Int) < (l.length : Int) - ((i : Int) + 1) := by omega
          have hltz2 : (m : Int) < ((l.length - (i + 1) : Nat) : Int) := by omega
          obtain ⟨_, _, hpe, hown, _, _⟩ := owns_cap hri.row
          cases hpe
          obtain ⟨y, hy⟩ : ∃ y, l[i + 1 + m]? = some y := ⟨l[i + 1 + m], List.getElem?_eq_getElem (by omega)⟩
          have hyd : (l.drop (i + 1))[m]? = some y := by rw [List.getElem?_drop]; exact hy
          have HY := Lib.hid hy
          rcases HCA.out wr hown with hnil | ⟨b, off, rfl, hcl⟩
          · exfalso
            have := congrArg List.length hnil
            rw [flat_len lrC 2 (fun _ => rfl)] at this
            simp at this; omega
          have d0 := hcl (m * 2 + 0) _ (flat_get lrC 2 (fun _ => rfl) (l.drop (i + 1)) m 0 (by omega) y hyd)
          have d1 := hcl (m * 2 + 1) _ (flat_get lrC 2 (fun _ => rfl) (l.drop (i + 1)) m 1 (by omega) y hyd)
          rw [Nat.add_zero] at d0
          rw [← Nat.add_assoc] at d1
          obtain ⟨W4, hW4⟩ : ∃ W, W = wr.alloc (.cells #[.int .i64 y.start, .slice y.q y.fibs.length y.cap] 39) := ⟨_, rfl⟩
          have hf4 : Fresh wr W4 := by rw [hW4]; exact fnew (frefl _) _
          have hr4 : RowAt W4 wr.heap.size 39 [.int .i64 y.start, .slice y.q y.fibs.length y.cap] := by rw [hW4]; exact RowAt.new _ _ _
          have HF4 := Lib.hid hf4
          have HR4 := Lib.hid hr4
          have HW4 := Lib.hid hW4
          have HRA := Lib.hid hra
          have a0 := fun o : Obj => fkeep (fnew (frefl wr) o) (hra.cell (i := 0) rfl)
          have a1 := fun o : Obj => fkeep (fnew (frefl wr) o) (hra.cell (i := 1) rfl)
          have n0 := fun o : Obj => fkeep (fnew (frefl wr) o) (hrn.cell (i := 0) rfl)
          have n1' := fun o : Obj => fkeep (fnew (frefl wr) o) (hrn.cell (i := 1) rfl)
          have hxg := HL.out x (List.mem_of_getElem? HX.out)
          have hyg := HL.out y (List.mem_of_getElem? hy)
          have HDP := Lib.hid (dP_at (n := n) (s := s) (kind := kind) HX.out hy)
          have HDJ : Hid (Calls Tryz.prog 39 #[.agg #[.slice qn n.nodes.length cn, .slice pn n.fibers.length cpn], .agg #[.int .i64 x.start, .slice x.q x.fibs.length x.cap], .agg #[.int .i64 y.start, .slice y.q y.fibs.length y.cap], .int .i64 kind] W4 fun e w' => e = .returned (.bool (disjB n s x.fibs y.fibs kind)) ∧ Fresh W4 w') := by
            have := disjoint_any _ n s t x.q y.q x.cap y.cap x.fibs y.fibs kind W4 ((HN.out.keep (HFR.out _ _ HI2.out)).keep hf4) HNET.out HS.out HKD.out hxg.2 hyg.2 ((hri.fib x (List.mem_of_getElem? HX.out)).keep hf4).ints ((hri.fib y (List.mem_of_getElem? hy)).keep hf4).ints
            rw [hxg.1, hyg.1]
            exact this
          have HVS : Hid (∀ W, Fresh W4 W → Calls Tryz.prog cl (#[.agg #[.int .i64 x.start, .slice x.q x.fibs.length x.cap], .agg #[.int .i64 y.start, .slice y.q y.fibs.length y.cap]] ++ cp) W fun e w' => e = .returned (.tuple #[]) ∧ Inv (toI (dP n s (l.map LR.val) kind) l.length i ++ rowI (dP n s (l.map LR.val) kind) i (i + 1 + m) ++ [(i, i + 1 + m)]) w' ∧ Kp lo hi W w') := fun W hW =>
            HV.out _ i (i + 1 + m) x y W (by omega) HX.out HY.out (HKEEP.out _ _ _ HI2.out (fstep HF4.out hW)) (HRI.out.keep (fstep HF4.out hW))
          clear hy hyd hown hcl hxg hyg hf4 hr4 hW4 hra hrn hri hkp
          cases hd : disjB n s x.fibs y.fibs kind
          · rw [hd] at HDJ HDP
            clear hd
            go_wp2_with fail
            rw [← HW4.out]
            refine (HDJ.out).mono ?_
            rintro e w5 ⟨rfl, hf5⟩
            have HF5 := Lib.hid (fstep HF4.out hf5)
            clear hf5 a0 a1 n0 n1' d0 d1
            go_wp2
            go_roundw
            case rel => exact ⟨m + 1, by omega, by go_num, by rw [← Nat.add_assoc, rowI_none HDP.out]; exact HKEEP.out _ _ _ HI2.out HF5.out, HK2.out.trans (Kp.fresh HF5.out)⟩
            case measure => simp [intOf]; omega
          · rw [hd] at HDJ HDP
            clear hd
            go_wp2_with fail
            rw [← HW4.out]
            refine (HDJ.out).mono ?_
            rintro e w5 ⟨rfl, hf5⟩
            have HF5 := Lib.hid hf5
            have e0 := (HRA.out.keep (fstep HF4.out hf5)).cell (i := 0) rfl
            have e1 := (HRA.out.keep (fstep HF4.out hf5)).cell (i := 1) rfl
            have e2 := (HR4.out.keep hf5).cell (i := 0) rfl
            have e3 := (HR4.out.keep hf5).cell (i := 1) rfl
            clear hf5 a0 a1 n0 n1' d0 d1
            go_wp2_with fail
            refine (HVS.out _ HF5.out).mono ?_
            rintro e w6 ⟨rfl, hi6, hk6⟩
            have HI6 := Lib.hid hi6
            have HK6 := Lib.hid hk6
            clear hi6 hk6 e0 e1 e2 e3
            go_wp2
            go_roundw
            case rel => exact ⟨m + 1, by omega, by go_num, by rw [← Nat.add_assoc, rowI_some (by omega) HDP.out, ← List.append_assoc]; exact HI6.out, (HK2.out.trans (Kp.fresh (fstep HF4.out HF5.out))).trans HK6.out⟩
            case measure => simp [intOf]; omega
        · have hmn : m = l.length - (i + 1) := by omega
          have hltz : ¬ (m : Int) < (l.length : Int) - ((i : Int) + 1) := by omega
          have hltz2 : ¬ (m : Int) < ((l.length - (i + 1) : Nat) : Int) := by omega
          have HI3 : Hid (Inv (toI (dP n s (l.map LR.val) kind) l.length (i + 1)) wr) := by
            show Inv _ _
            rw [toI_succ]
            have := HI2.out
            rw [show i + 1 + m = l.length by omega] at this
            exact this
          clear hra hrn hri hkp hmn
          go_wp2
          go_roundw
          case rel => exact ⟨i + 1, by omega, by go_num, HI3.out, HKP.out.trans ((Kp.fresh HF3.out).trans HK2.out)⟩
          case measure => simp [intOf]; omega
    · have hjn : i = l.length := by omega
      have hltz : ¬ (i : Int) < (l.length : Int) := by omega
      subst hjn
      go_wp2
      refine bodyPost_end (results_none rfl _ _ _) rfl ?_
      exact ⟨rfl, HINV.out, (Kp.fresh HF2.out).trans HKP.out⟩
end Go.Proofs.YtlapicgeokjpjaaGreat
