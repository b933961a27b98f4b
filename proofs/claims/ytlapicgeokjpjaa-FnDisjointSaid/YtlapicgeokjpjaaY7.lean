/- Texts of mine laid together (Al, Al2, DjP, UsP, Us, Us2, Us3). -/
import Derived.Test.YtlapicgeokjpjaaSe
import Derived.Laws.EntriesVeiled
import Derived.Test.YtlapicgeokjpjaaY6
import Derived.Test.YtlapicgeokjpjaaM2
import Derived.Test.YtlapicgeokjpjaaM1
import Derived.Test.YtlapicgeokjpjaaM19
import Derived.Maps.AppendAt
/- Contracts: all routes between two nodes, both sides. -/
namespace Go.Proofs.Ytlapicgeokjpjaa
open Go.RowKit Go.PlainAid

def nodesB (n : Net) (l : List Int) : Bool := netB n && !(l.any fun x => !inB x 0 ((n.nodes.length : Int) - 1))
/-- Whether there are routes to tell of, and few enough. -/
def pairB (n : Net) (s t : Int) : Bool := netB n && (inB s 0 ((n.nodes.length : Int) - 1) && (inB t 0 ((n.nodes.length : Int) - 1) && decide (s ≠ t)))
def okA (n : Net) (s t : Int) : Bool := pairB n s t && decide ((allR n s t).length ≤ 200)
def allA (n : Net) (s t : Int) : List (Int × List Int) := if okA n s t then allR n s t else []
theorem pairB_nodes (n : Net) (s t : Int) : pairB n s t = (nodesB n [s, t] && decide (s ≠ t)) := by
  unfold pairB nodesB
  simp only [List.any_cons, List.any_nil]
  cases netB n <;> cases inB s 0 ((n.nodes.length : Int) - 1) <;> cases inB t 0 ((n.nodes.length : Int) - 1) <;> simp
theorem pairB_in {n : Net} {s t : Int} (h : pairB n s t = true) : netB n = true ∧ (0 ≤ s ∧ s < (n.nodes.length : Int)) ∧ (0 ≤ t ∧ t < (n.nodes.length : Int)) ∧ s ≠ t := by
  unfold pairB at h
  simp only [Bool.and_eq_true, inB_iff, decide_eq_true_eq] at h
  obtain ⟨h1, h2, h3, h4⟩ := h
  exact ⟨h1, by omega, by omega, h4⟩
theorem okA_pair {n : Net} {s t : Int} (h : okA n s t = true) : pairB n s t = true := by unfold okA at h; simp only [Bool.and_eq_true] at h; exact h.1
theorem Rts.none (w : World) (base : Nat) : Rts w base (.slice none 0 0) [] := Rts.nil _ _ ⟨rfl, Or.inl ⟨rfl, rfl⟩⟩
/-- What both sides hand back. -/
def OutA (n : Net) (s t : Int) (w : World) (e : Ending) (w' : World) : Prop := ∃ (V : Value) (l : List LR), e = .returned (.tuple #[V, .bool (okA n s t)]) ∧ Rts w' w.heap.size V l ∧ l.map LR.val = allA n s t ∧ Fresh w w'
theorem outA_no {n : Net} {s t : Int} {w w' : World} (h : okA n s t = false) (hf : Fresh w w') : OutA n s t w (.returned (.tuple #[.slice none 0 0, .bool false])) w' := ⟨_, [], by rw [h], Rts.none _ _, by unfold allA; rw [h]; rfl, hf⟩
end Go.Proofs.Ytlapicgeokjpjaa

/- Contracts: all routes between two nodes, the reference's side. -/
namespace Go.Proofs.Ytlapicgeokjpjaa
open Go.RowKit Go.PlainAid

set_option maxHeartbeats 4000000 in
theorem l4Pair_any (v : Value) (n : Net) (s t : Int) (w : World) (h : NetIn w v n) :
    Calls Try.prog 34 #[v, .int .i64 s, .int .i64 t] w fun e w' => e = .returned (.bool (pairB n s t)) ∧ Fresh w w' := by
  have HN := Lib.hid h
  obtain ⟨qn, cn, pn, cp, rfl, _, _, n1, _, _, _, _⟩ := h
  obtain ⟨W2, hW2⟩ : ∃ W, W = w.alloc (.cells #[.slice qn n.nodes.length cn, .slice pn n.fibers.length cp] 27) := ⟨_, rfl⟩
  have hf2 : Fresh w W2 := by rw [hW2]; exact fnew (frefl _) _
  have hr2 : RowAt W2 w.heap.size 27 [.slice qn n.nodes.length cn, .slice pn n.fibers.length cp] := by rw [hW2]; exact RowAt.new _ _ _
  have HF2 := Lib.hid hf2
  have HR2 := Lib.hid hr2
  have HW2 := Lib.hid hW2
  have HOK := Lib.hid (l2Good_any _ n W2 (HN.out.keep hf2))
  have HDEF : Hid (pairB n s t = (netB n && (inB s 0 ((n.nodes.length : Int) - 1) && (inB t 0 ((n.nodes.length : Int) - 1) && decide (s ≠ t))))) := rfl
  have HIB := Lib.hid (fun x W => l1In_any x 0 ((n.nodes.length : Int) - 1) W)
  have hw1 : IntKind.i64.wrap ((n.nodes.length : Int) - 1) = (n.nodes.length : Int) - 1 := by rw [IntKind.wrap_i64]; omega
  have hne : (s != t) = decide (s ≠ t) := by by_cases h : s = t <;> simp [h]
  clear hf2 hr2 hW2
  clear HIB
  cases hbn : netB n <;> cases hbs : inB s 0 ((n.nodes.length : Int) - 1) <;> cases hbt : inB t 0 ((n.nodes.length : Int) - 1) <;> cases hd : decide (s ≠ t)
  all_goals (
    rw [hbn, hbs, hbt, hd] at HDEF
    rw [hbn] at HOK
    rw [hd] at hne
    clear hd hbn
    go_enter Try.func34, Try.ntmps34
    go_wp2_with fail
    rw [← HW2.out]
    refine (HOK.out).mono ?_
    rintro e w1 ⟨rfl, hb⟩
    have HB := Lib.hid hb
    have c0 := (HR2.out.keep hb).cell (i := 0) rfl
    clear hb
    go_wp2_with (go_at_call 42; refine (l1In_any _ _ _ _).mono ?_; rintro e w2 ⟨rfl, rfl⟩; (first | rw [hbs] | rw [hbt]))
    go_ret
    exact ⟨ret_bool HDEF.out.symm, fstep HF2.out HB.out⟩)
theorem keep_few {n : Net} {s t : Int} (h : s ≠ t) : ((keepTo (putL (ltC (cmpR n.fibers))) 200 [] ((dfsR n.fibers t n.nodes.length [s] []).map fun L => (s, L))).length ≤ 200 ↔ (allR n s t).length ≤ 200) ∧ ((allR n s t).length ≤ 200 → keepTo (putL (ltC (cmpR n.fibers))) 200 [] ((dfsR n.fibers t n.nodes.length [s] []).map fun L => (s, L)) = allR n s t) := by
  have hraw : rawR n s t = (dfsR n.fibers t n.nodes.length [s] []).map fun L => (s, L) := by unfold rawR; rw [if_neg h]
  rw [← hraw, allR_len, ← allR_put]
  refine ⟨?_, fun h1 => keepTo_all (putL_len _) _ _ (by rw [List.length_nil]; omega)⟩
  rw [keepTo_len (putL_len _) _ _ (Nat.zero_le _)]
  simp only [List.length_nil]
  omega
set_option maxHeartbeats 4000000 in
theorem l4All_any (v : Value) (n : Net) (s t : Int) (w : World) (h : NetIn w v n) (hp : pairB n s t = true) :
    Calls Try.prog 35 #[v, .int .i64 s, .int .i64 t] w (OutA n s t w) := by
  have HN := Lib.hid h
  have HPR := Lib.hid hp
  have HIN := Lib.hid (pairB_in hp)
  obtain ⟨qn, cn, pn, cp, rfl, _, hF, n1, _, _, _, _⟩ := h
  obtain ⟨h8, h14, _⟩ := net_at HIN.out.1
  obtain ⟨W3, hW3, hsz3, hf3, r1, r2, r3⟩ := three_rows w [.slice qn n.nodes.length cn, .slice pn n.fibers.length cp] [.slice qn n.nodes.length cn, .slice pn n.fibers.length cp, .int .i64 t, .slice none 0 0] [.int .i64 s] 27 82 3
  have HF3 := Lib.hid hf3
  have HW3 := Lib.hid hW3
  have hst : SeSt w W3 (w.heap.size + 1) qn pn cn cp n s t 0 [] := ⟨hf3, ⟨none, 0, [], r2, Rts.none _ _, rfl, fun x hx => by simp at hx⟩, fun R hR => by simp at hR⟩
  have HEX := Lib.hid (seExt_any w (w.heap.size + 1) qn pn cn cp n s t HN.out hF (net_len HIN.out.1) HIN.out.2.1 (net_fib HIN.out.1) h14 h8 (by omega) n.nodes.length [s] [] (some ⟨w.heap.size + 1 + 1, 0, none⟩) none 1 0 0 [] W3 hst (Or.inl ⟨rfl, rfl⟩) (Nat.le_refl _) (by omega) (by intro g o e; cases e) (Or.inr ⟨_, [], rfl, by omega, r3⟩) rfl (by simp; omega) (by simp))
  have HKF := Lib.hid (keep_few (n := n) HIN.out.2.2.2)
  clear hp hF hst r1 r2 r3 hf3 hW3 hsz3 h8 h14
  go_enter Try.func35, Try.ntmps35
  go_wp2_with fail
  rw [← HW3.out]
  refine (HEX.out).mono ?_
  rintro e w4 ⟨rfl, hst, -⟩
  obtain ⟨p, c, m, hro, hm⟩ := hst.row
  have HST := Lib.hid hst
  have e3 := hro.cell (i := 3) rfl
  have HM := Lib.hid hm
  have HRO := Lib.hid hro
  clear hro hm hst HEX
  by_cases h200 : m ≤ 200
  · have hgt : ¬ (200 : Int) < (m : Int) := by omega
    have hfew : (allR n s t).length ≤ 200 := HKF.out.1.1 (by rw [← HM.out]; exact h200)
    have HOK : Hid (okA n s t = true) := by show _ = _; unfold okA; rw [HPR.out]; simp [hfew]
    have HALL := Lib.hid (HKF.out.2 hfew)
    obtain ⟨fr4, ⟨p', c', l, hro', rts, hval, _⟩, _⟩ := HST.out
    have hinj := (hro'.inj HRO.out).2
    simp only [List.cons.injEq, Value.slice.injEq, and_true, true_and] at hinj
    obtain ⟨rfl, hlm, rfl⟩ := hinj
    obtain ⟨p2, c2, hpc, hown, _, _⟩ := owns_cap rts.row
    cases hpc
    subst hlm
    have HRTS := Lib.hid rts
    have HVAL := Lib.hid hval
    have HFR4 := Lib.hid fr4
    have HCL : Hid (∀ W, Fresh w4 W → Cells W p' (l.flatMap lrC)) := fun W hW => (hown.keep hW).cells
    have HLEN : Hid ((l.flatMap lrC).length = l.length * 2) := flat_len lrC 2 (fun _ => rfl) l
    have e3w := fun o : Obj => fkeep (fnew (frefl w4) o) e3
    clear hown rts hro' hval fr4 hfew
    go_wp2_with (at_builtin; refine wpList_app_many Try.underlying45 infoRt rfl (by decide) (by decide) w _ _ 0 [] p' l.length c' (l.flatMap lrC) HLEN.out (ones_rt l) rfl _ _ rfl rfl (World.ownsRow_made w4 #[] 0 HFR4.out.size (by simp [maxLen]) rfl) rfl (HCL.out _ (fnew (frefl _) _)) (by omega) (by omega) (fnew HFR4.out _) ?_; intro v' w' hown3 hf3 hk3)
    rw [Nat.zero_add, List.nil_append] at hown3
    have HO := Lib.hid hown3
    have HFX := Lib.hid hf3
    have HFB : Hid (∀ x ∈ l, Own w' w.heap.size 3 x.q (x.fibs.map iv)) := by
      intro x hx
      rcases (HRTS.out.fib x hx).keep (fnew (frefl _) _) with h1 | ⟨g, sp, a1, a2, a3⟩
      · exact Or.inl h1
      · exact Or.inr ⟨g, sp, a1, a2, hk3 _ _ _ a3 (by decide)⟩
    clear hown3 hf3 hk3
    go_wp2
    go_ret2
    exact ⟨v', l, by rw [HOK.out]; (first | done | rfl), ⟨HO.out, HFB.out, HRTS.out.dist, HRTS.out.cap⟩, by rw [HVAL.out, HALL.out]; unfold allA; rw [HOK.out]; rfl, HFX.out⟩
  · have hgt : (200 : Int) < (m : Int) := by omega
    have hmany : ¬ (allR n s t).length ≤ 200 := fun h => h200 (by rw [HM.out]; exact HKF.out.1.2 h)
    have HNO : Hid (okA n s t = false) := by show _ = _; unfold okA; rw [HPR.out]; simp; omega
    clear hmany
    have HFR4 := Lib.hid HST.out.fr
    go_wp2
    go_ret2
    refine ⟨_, [], by rw [HNO.out]; (first | done | rfl), Rts.nil _ _ (ownsRow_zero (RowAt.new w4 30 []) HFR4.out.size), by unfold allA; rw [HNO.out]; rfl, fnew HFR4.out _⟩
set_option maxHeartbeats 2000000 in
theorem specAllRoutes_any (v : Value) (n : Net) (s t : Int) (w : World) (h : NetIn w v n) :
    Calls Try.prog 14 #[v, .int .i64 s, .int .i64 t] w (OutA n s t w) := by
  have HN := Lib.hid h
  obtain ⟨qn, cn, pn, cp, rfl, _, _, n1, _, _, _, _⟩ := h
  obtain ⟨W2, hW2⟩ : ∃ W, W = w.alloc (.cells #[.slice qn n.nodes.length cn, .slice pn n.fibers.length cp] 27) := ⟨_, rfl⟩
  have hf2 : Fresh w W2 := by rw [hW2]; exact fnew (frefl _) _
  have hr2 : RowAt W2 w.heap.size 27 [.slice qn n.nodes.length cn, .slice pn n.fibers.length cp] := by rw [hW2]; exact RowAt.new _ _ _
  have HF2 := Lib.hid hf2
  have HR2 := Lib.hid hr2
  have HW2 := Lib.hid hW2
  have HPA := Lib.hid (l4Pair_any _ n s t W2 (HN.out.keep hf2))
  clear hf2 hr2 hW2
  cases hB : pairB n s t
  · rw [hB] at HPA
    have HNO : Hid (okA n s t = false) := by show _ = _; unfold okA; rw [hB]; rfl
    go_enter Try.func14, Try.ntmps14
    go_wp2_with fail
    rw [← HW2.out]
    refine (HPA.out).mono ?_
    rintro e w1 ⟨rfl, hb⟩
    have HB := Lib.hid (fstep HF2.out hb)
    clear hb
    go_wp2
    go_ret2
    refine ⟨_, [], by rw [HNO.out]; (first | done | rfl), Rts.nil _ _ (ownsRow_zero (RowAt.new w1 30 []) HB.out.size), by unfold allA; rw [HNO.out]; rfl, fnew HB.out _⟩
  · rw [hB] at HPA
    have HPB := Lib.hid hB
    go_enter Try.func14, Try.ntmps14
    go_wp2_with fail
    rw [← HW2.out]
    refine (HPA.out).mono ?_
    rintro e w1 ⟨rfl, hb⟩
    have HB := Lib.hid (fstep HF2.out hb)
    have c0 := (HR2.out.keep hb).cell (i := 0) rfl
    have c1 := (HR2.out.keep hb).cell (i := 1) rfl
    clear hb
    go_wp2_with fail
    refine (l4All_any _ n s t w1 (HN.out.keep HB.out) HPB.out).mono ?_
    rintro e w3 ⟨V, l, rfl, hr, hv, hf⟩
    have HF3 := Lib.hid (fstep HB.out hf)
    have HRT := Lib.hid (show Rts w3 w.heap.size V l from ⟨owns_mono hr.row HB.out.size, fun x hx => (hr.fib x hx).mono HB.out.size, hr.dist, hr.cap⟩)
    have HV := Lib.hid hv
    clear hr hv hf c0 c1
    go_wp2
    go_ret2
    exact ⟨V, l, rfl, HRT.out, HV.out, HF3.out⟩
end Go.Proofs.Ytlapicgeokjpjaa

/- Disjoint routes: the plain law (no program in sight). -/
namespace Go.Proofs.Ytlapicgeokjpjaa
open Go.RowKit

/-- An element of both lists, the first and the last of the first one apart. -/
def shareB (x y : List Int) : Bool := (x.drop 1).dropLast.any fun i => decide (i ∈ y)
def nodesR (n : Net) (s : Int) (a : List Int) : List Int := (walkR n.fibers s a).getD []
def disjB (n : Net) (s : Int) (a b : List Int) (k : Int) : Bool := if k = 2 then apartF n.fibers a b else !usesB a b && (k == 1 || !shareB (nodesR n s a) (nodesR n s b))
/-- A route of a network between two nodes. -/
def RtGood (n : Net) (s t : Int) (a : List Int) : Prop := a ≠ [] ∧ ∃ out, walkR n.fibers s a = some out ∧ lastI out = t
theorem risk_ok {n : Net} (h : netB n = true) : RiskOk n.fibers := by
  intro f hf
  have := (net_at h).2.2 f hf
  unfold fibB at this
  simp only [Bool.and_eq_true, inB_iff] at this
  exact this.2
theorem compact_nodup {zs : List Int} (h : zs.Nodup) : Lib.compact zs = zs := by
  refine Lib.compact_all zs fun j hj => ?_
  unfold Lib.keeps
  simp only [decide_eq_true_eq]
  rcases Nat.eq_zero_or_pos j with h0 | h0
  · left; exact h0
  · right
    simp only [List.getElem!_toArray]
    rw [List.getElem!_eq_getElem?_getD, List.getElem!_eq_getElem?_getD, List.getElem?_eq_getElem hj, List.getElem?_eq_getElem (show j - 1 < zs.length by omega)]
    simp only [Option.getD_some]
    intro e
    exact List.pairwise_iff_getElem.1 h (j - 1) j (by omega) hj (by omega) e.symm
theorem common_nodup {x y : List Int} (h : x.Nodup) : (commonF x y).length = (x.filter fun k => decide (k ∈ y)).length := by
  unfold commonF
  have hn : (sortI (x.filter fun k => decide (k ∈ y))).Nodup := by
    unfold sortI
    exact (List.Perm.nodup_iff (List.mergeSort_perm _ _)).2 (h.filter _)
  rw [compact_nodup hn, sortI_len]
theorem common_zero (a b : List Int) : (((commonF a b).length : Int) == 0) = !usesB a b := by
  have := common_pos a b
  cases hu : usesB a b <;> rw [hu] at this
  · simp only [decide_eq_false_iff_not] at this
    rw [Bool.not_false, beq_iff_eq]; omega
  · simp only [decide_eq_true_eq] at this
    rw [Bool.not_true, beq_eq_false_iff_ne]; omega
theorem common_two {x y : List Int} {s t : Int} (hx : x.Nodup) (h2 : 2 ≤ x.length) (hs : x.head? = some s) (ht : lastI x = t) (sy : s ∈ y) (ty : t ∈ y) : (((commonF x y).length : Int) == 2) = !shareB x y := by
  rw [common_nodup hx]
  match x, hx, h2, hs, ht with
  | a :: l, _, h2, hs, ht =>
    simp only [List.head?_cons, Option.some.injEq] at hs
    subst hs
    have hl : l ≠ [] := by intro e; subst e; simp at h2
    have e : l = l.dropLast ++ [l.getLast hl] := (List.dropLast_concat_getLast hl).symm
    have htl : l.getLast hl = t := by
      rw [← ht]; unfold lastI
      rw [List.getLast?_eq_some_getLast (by simp), List.getLast_cons hl]; rfl
    rw [htl] at e
    unfold shareB
    simp only [List.drop_succ_cons, List.drop_zero]
    have hc : ((a :: l).filter fun k => decide (k ∈ y)).length = (l.dropLast.filter fun k => decide (k ∈ y)).length + 2 := by
      rw [List.filter_cons_of_pos (by simpa using sy)]
      conv => lhs; rw [e]
      rw [List.filter_append, List.length_cons, List.length_append, List.filter_cons_of_pos (by simpa using ty)]
      simp
    rw [hc]
    cases ha : l.dropLast.any fun i => decide (i ∈ y)
    · have : (l.dropLast.filter fun k => decide (k ∈ y)) = [] := by
        rw [List.filter_eq_nil_iff]
        intro z hz
        rw [List.any_eq_false] at ha
        exact ha z hz
      rw [this]; rfl
    · rw [List.any_eq_true] at ha
      obtain ⟨z, hz, hzy⟩ := ha
      have hpos : 0 < (l.dropLast.filter fun k => decide (k ∈ y)).length := List.length_pos_of_mem (List.mem_filter.2 ⟨hz, hzy⟩)
      rw [Bool.not_true, beq_eq_false_iff_ne]
      omega
theorem walk_head {F : List Fib} {s : Int} : ∀ {l out : List Int}, walkR F s l = some out → out.head? = some s := by
  intro l
  induction hn : l.length generalizing l with
  | zero =>
    intro out h
    have : l = [] := List.eq_nil_of_length_eq_zero hn
    subst this
    simp only [walkR, List.foldl_nil, Option.some.injEq] at h
    subst h; rfl
  | succ n ih =>
    intro out h
    have hne : l ≠ [] := by intro e; subst e; simp at hn
    have hl : l = l.dropLast ++ [l.getLast hne] := (List.dropLast_concat_getLast hne).symm
    rw [hl, walkR_snoc] at h
    cases hw : walkR F s l.dropLast with
    | none => rw [hw] at h; cases h
    | some o =>
      rw [hw] at h
      have h1 := ih (l := l.dropLast) (by simp [hn]) hw
      simp only [Option.bind_some] at h
      unfold stepR at h
      split at h
      · split at h
        · split at h
          · cases h
          · simp only [Option.some.injEq] at h
            rw [← h, List.head?_append, h1]; rfl
        · cases h
      · cases h
theorem last_mem {l : List Int} (h : l ≠ []) : lastI l ∈ l := by
  unfold lastI
  rw [List.getLast?_eq_some_getLast h]
  exact List.getLast_mem h
theorem nodes_at {n : Net} {s t : Int} {a : List Int} (hn : netB n = true) (hs : 0 ≤ s ∧ s < (n.nodes.length : Int)) (h : RtGood n s t a) :
    walkR n.fibers s a = some (nodesR n s a) ∧ (nodesR n s a).Nodup ∧ (nodesR n s a).length = a.length + 1 ∧ (nodesR n s a).length ≤ 8 ∧ 2 ≤ (nodesR n s a).length ∧ (nodesR n s a).head? = some s ∧ lastI (nodesR n s a) = t ∧ s ∈ nodesR n s a ∧ t ∈ nodesR n s a := by
  obtain ⟨h0, out, h1, h2⟩ := h
  have e : nodesR n s a = out := by unfold nodesR; rw [h1]; rfl
  rw [e]
  obtain ⟨a1, a2, a3⟩ := wkIn (net_fib hn) hs h1
  have h8 := nodup_le a1 a2
  have hN := (net_at hn).1
  have hl : 0 < a.length := List.length_pos_iff.2 h0
  have hh := walk_head h1
  have hne : out ≠ [] := by intro e; rw [e] at a3; simp at a3
  exact ⟨h1, a1, a3, by omega, by omega, hh, h2, List.mem_of_mem_head? (by rw [hh]; rfl), by rw [← h2]; exact last_mem hne⟩
theorem disj_two {n : Net} {s t : Int} {a b : List Int} (hn : netB n = true) (hs : 0 ≤ s ∧ s < (n.nodes.length : Int)) (ha : RtGood n s t a) (hb : RtGood n s t b) : (((commonF (nodesR n s a) (nodesR n s b)).length : Int) == 2) = !shareB (nodesR n s a) (nodesR n s b) := by
  obtain ⟨_, a2, _, _, a5, a6, a7, _, _⟩ := nodes_at hn hs ha
  obtain ⟨_, _, _, _, _, _, _, b8, b9⟩ := nodes_at hn hs hb
  exact common_two a2 a5 a6 a7 b8 b9
theorem rt_ok {n : Net} {s t : Int} {a : List Int} (hn : netB n = true) (hs : 0 ≤ s ∧ s < (n.nodes.length : Int)) (h : RtGood n s t a) : RtOk n a := by
  obtain ⟨a1, _, a3, a4, _⟩ := nodes_at hn hs h
  exact ⟨walk_idx a1, by omega⟩
theorem good_mem {n : Net} {s t : Int} {R : Int × List Int} (h : R ∈ allR n s t) : R.1 = s ∧ RtGood n s t R.2 := by
  obtain ⟨h1, h2, out, h3, h4⟩ := rawR_mem (allR_mem.1 h)
  exact ⟨h1, h2, out, h3, h4⟩
end Go.Proofs.Ytlapicgeokjpjaa

/- Plain: the usable routes of a demand with their slots. -/
namespace Go.Proofs.Ytlapicgeokjpjaa
open Go.RowKit

/-- A format that reaches far enough is one of the list's. -/
theorem bestTo_reach (l : List (Int × Int)) (n : Int) : ∀ k, k ≤ l.length → 0 ≤ bestTo l n k → ∃ (i : Nat) (x y : Int), i < k ∧ l[i]? = some (x, y) ∧ n ≤ x
  | 0, _, h => by simp [bestTo] at h
  | k + 1, hk, h => by
    obtain ⟨x, y, hx⟩ : ∃ x y, l[k]? = some (x, y) := ⟨l[k].1, l[k].2, by simp [show k < l.length by omega]⟩
    by_cases hn : n ≤ x
    · exact ⟨k, x, y, by omega, hx, hn⟩
    · rw [bestTo_no hx hn] at h
      obtain ⟨i, x', y', h1, h2, h3⟩ := bestTo_reach l n k (by omega) h
      exact ⟨i, x', y', by omega, h2, h3⟩
theorem fmts_reach {l : List (Int × Int)} (h : fmtsB l = true) {i : Nat} {x y : Int} (hx : l[i]? = some (x, y)) : 1 ≤ x ∧ x ≤ 20000 := by
  unfold fmtsB at h
  rw [Bool.and_eq_true, List.all_eq_true] at h
  have hlt : i < l.length := (List.getElem?_eq_some_iff.1 hx).1
  have hk := h.1 i (List.mem_range.2 hlt)
  simp only [okAt, hx, Bool.and_eq_true] at hk
  exact inB_iff.1 hk.1.1
theorem slotsN_far {l : List (Int × Int)} {n r : Int} (h : fmtsB l = true) (hn : 20000 < n) : slotsN l n r = 0 := by
  refine slotsN_none ?_
  by_cases hb : bestI l n < 0
  · exact hb
  · obtain ⟨i, x, y, _, hx, hle⟩ := bestTo_reach l n l.length (Nat.le_refl _) (by show 0 ≤ bestI l n; omega)
    have := fmts_reach h hx
    omega
theorem slotsF_all {l : List (Int × Int)} {n r : Int} (h : fmtsB l = true) (hn : 0 ≤ n) (hr : inB r 1 1000 = true) : slotsF l n r = (slotsN l n r, !(slotsN l n r == 0)) := by
  by_cases hfar : n ≤ 20000
  · have hi : inB n 0 20000 = true := inB_iff.2 ⟨hn, hfar⟩
    by_cases hz : slotsN l n r = 0
    · rw [slotsF_zero hz, hz]; rfl
    · rw [slotsF_yes (by rw [h, hi, hr]; rfl) hz]; simp [hz]
  · have hz := slotsN_far (r := r) h (by omega : 20000 < n)
    rw [slotsF_zero hz, hz]; rfl
abbrev ChV := (Int × List Int) × Int
def useS (n : Net) (fm : List (Int × Int)) (r : Int) (R : Int × List Int) : Int := slotsN fm (lenR n.fibers R.2) r
def usL (n : Net) (fm : List (Int × Int)) (r : Int) (l : List (Int × List Int)) : List ChV := (l.filter fun R => !(useS n fm r R == 0)).map fun R => (R, useS n fm r R)
theorem usL_no {n : Net} {fm : List (Int × Int)} {r : Int} {l : List (Int × List Int)} {R : Int × List Int} (h : useS n fm r R = 0) : usL n fm r (l ++ [R]) = usL n fm r l := by
  unfold usL
  rw [List.filter_append]
  simp [h]
theorem usL_yes {n : Net} {fm : List (Int × Int)} {r : Int} {l : List (Int × List Int)} {R : Int × List Int} (h : ¬ useS n fm r R = 0) : usL n fm r (l ++ [R]) = usL n fm r l ++ [(R, useS n fm r R)] := by
  unfold usL
  rw [List.filter_append]
  simp [h]
theorem usL_len (n : Net) (fm : List (Int × Int)) (r : Int) (l : List (Int × List Int)) : (usL n fm r l).length ≤ l.length := by
  unfold usL
  rw [List.length_map]
  exact List.length_filter_le _ _
theorem usL_mem {n : Net} {fm : List (Int × Int)} {r : Int} {l : List (Int × List Int)} {c : ChV} (hf : fmtsB fm = true) (hr : 1 ≤ r) (h : c ∈ usL n fm r l) : c.1 ∈ l ∧ 1 ≤ c.2 ∧ c.2 ≤ 24 := by
  unfold usL at h
  obtain ⟨R, hR, rfl⟩ := List.mem_map.1 h
  obtain ⟨h1, h2⟩ := List.mem_filter.1 hR
  have h3 : useS n fm r R ≠ 0 := by simpa using h2
  exact ⟨h1, slotsN_pos hf hr h3⟩
def usB (n : Net) (fm : List (Int × Int)) (d : Fib) : Bool := netB n && fmtsB fm && demB n.nodes.length d
def usOk (n : Net) (fm : List (Int × Int)) (d : Fib) : Bool := usB n fm d && okA n d.a d.b
def usF (n : Net) (fm : List (Int × Int)) (d : Fib) : List ChV × Bool := if usOk n fm d then (usL n fm d.len (allR n d.a d.b), true) else ([], false)
theorem usF_no {n : Net} {fm : List (Int × Int)} {d : Fib} (h : usOk n fm d = false) : usF n fm d = ([], false) := by unfold usF; rw [h]; rfl
theorem usF_yes {n : Net} {fm : List (Int × Int)} {d : Fib} (h : usOk n fm d = true) : usF n fm d = (usL n fm d.len (allR n d.a d.b), true) := by unfold usF; rw [h]; rfl
theorem usB_at {n : Net} {fm : List (Int × Int)} {d : Fib} (h : usB n fm d = true) : netB n = true ∧ fmtsB fm = true ∧ demB n.nodes.length d = true ∧ 1 ≤ d.len ∧ d.len ≤ 1000 ∧ (0 ≤ d.a ∧ d.a < (n.nodes.length : Int)) ∧ (0 ≤ d.b ∧ d.b < (n.nodes.length : Int)) ∧ d.a ≠ d.b := by
  unfold usB at h
  simp only [Bool.and_eq_true] at h
  obtain ⟨⟨h1, h2⟩, h3⟩ := h
  have h4 := h3
  unfold demB at h4
  simp only [Bool.and_eq_true, inB_iff] at h4
  obtain ⟨⟨⟨⟨a1, a2⟩, a3⟩, a4⟩, a5⟩ := h4
  have a3' : ¬ d.a = d.b := by simpa using a3
  exact ⟨h1, h2, h3, by omega, by omega, by omega, by omega, a3'⟩
theorem usB_pair {n : Net} {fm : List (Int × Int)} {d : Fib} (h : usB n fm d = true) : pairB n d.a d.b = true := by
  obtain ⟨h1, _, _, _, _, h2, h3, h4⟩ := usB_at h
  unfold pairB
  rw [h1, inB_iff.2 ⟨h2.1, by omega⟩, inB_iff.2 ⟨h3.1, by omega⟩]
  simp [h4]
theorem dem_one (n : Net) (d : Fib) : demsB n [d] = (netB n && demB n.nodes.length d) := by simp [demsB]
theorem usF_len (n : Net) (fm : List (Int × Int)) (d : Fib) : (usF n fm d).1.length ≤ 200 := by
  cases h : usOk n fm d
  · rw [usF_no h]; simp
  · rw [usF_yes h]
    have h2 := usL_len n fm d.len (allR n d.a d.b)
    unfold usOk okA at h
    simp only [Bool.and_eq_true, decide_eq_true_eq] at h
    have := h.2.2
    show (usL n fm d.len (allR n d.a d.b)).length ≤ 200
    omega
end Go.Proofs.Ytlapicgeokjpjaa

/- Contracts: the usable routes of a demand, the program's side. -/
namespace Go.Proofs.Ytlapicgeokjpjaa
open Go.RowKit Go.PlainAid

/-- A choice as it lies in memory: a route and its slots. -/
structure CH where
  r : LR
  k : Int
abbrev chC (x : CH) : List Value := [iv x.r.start, .slice x.r.q x.r.fibs.length x.r.cap, iv x.k]
abbrev CH.val (x : CH) : ChV := (x.r.val, x.k)
def chsOf (n : Net) (fm : List (Int × Int)) (r : Int) (l : List LR) : List CH := (l.filter fun x => !(useS n fm r x.val == 0)).map fun x => ⟨x, useS n fm r x.val⟩
theorem chs_val (n : Net) (fm : List (Int × Int)) (r : Int) (l : List LR) : (chsOf n fm r l).map CH.val = usL n fm r (l.map LR.val) := by
  unfold chsOf usL
  rw [List.filter_map, List.map_map, List.map_map]
  rfl
theorem chs_no {n : Net} {fm : List (Int × Int)} {r : Int} {l : List LR} {x : LR} (h : useS n fm r x.val = 0) : chsOf n fm r (l ++ [x]) = chsOf n fm r l := by
  unfold chsOf
  rw [List.filter_append]
  simp [h]
theorem chs_yes {n : Net} {fm : List (Int × Int)} {r : Int} {l : List LR} {x : LR} (h : ¬ useS n fm r x.val = 0) : chsOf n fm r (l ++ [x]) = chsOf n fm r l ++ [⟨x, useS n fm r x.val⟩] := by
  unfold chsOf
  rw [List.filter_append]
  simp [h]
theorem chs_len (n : Net) (fm : List (Int × Int)) (r : Int) (l : List LR) : (chsOf n fm r l).length ≤ l.length := by
  unfold chsOf
  rw [List.length_map]
  exact List.length_filter_le _ _
theorem chs_rs (n : Net) (fm : List (Int × Int)) (r : Int) (l : List LR) : (chsOf n fm r l).map CH.r = l.filter fun x => !(useS n fm r x.val == 0) := by
  unfold chsOf
  rw [List.map_map]
  exact List.map_id _
theorem DistR.pw {l : List LR} : DistR l ↔ l.Pairwise fun x y => ∀ g o h o', x.q = some ⟨g, o, none⟩ → y.q = some ⟨h, o', none⟩ → g ≠ h := by
  rw [List.pairwise_iff_getElem]
  constructor
  · intro h i j hi hj hij
    exact h i j l[i] l[j] (by omega) (List.getElem?_eq_getElem hi) (List.getElem?_eq_getElem hj)
  · intro h i j x y hij hx hy g o g' o' e1 e2
    obtain ⟨hi, rfl⟩ := List.getElem?_eq_some_iff.1 hx
    obtain ⟨hj, rfl⟩ := List.getElem?_eq_some_iff.1 hy
    rcases Nat.lt_or_gt_of_ne hij with h1 | h1
    · exact h i j hi hj h1 g o g' o' e1 e2
    · exact (h j i hj hi h1 g' o' g o e2 e1).symm
theorem DistR.filter {l : List LR} (h : DistR l) (p : LR → Bool) : DistR (l.filter p) := DistR.pw.2 ((DistR.pw.1 h).sublist List.filter_sublist)
theorem Rts.typ {w w' : World} {base : Nat} {V : Value} {l : List LR} {T : TypeId} (h : Rts w base V l) (hk : ∀ g t cs, RowAt w g t cs → t ≠ T → RowAt w' g t cs) (h1 : T ≠ 30) (h2 : T ≠ 3) : Rts w' base V l := by
  refine ⟨?_, fun x hx => (h.fib x hx).grown hk h2.symm, h.dist, h.cap⟩
  obtain ⟨a1, a2⟩ := h.row
  refine ⟨a1, ?_⟩
  rcases a2 with a2 | ⟨g, cap, cur, hv, hb, hh, r⟩
  · exact Or.inl a2
  · exact Or.inr ⟨g, cap, cur, hv, hb, by have := hk g _ cur.toList (show RowAt w g _ cur.toList from by unfold RowAt; exact hh) h1.symm; unfold RowAt at this; exact this, r⟩
/-- The cells of a route of a row. -/
theorem rts_at {w : World} {base : Nat} {p : Option Addr} {c : Nat} {l : List LR} (h : Rts w base (.slice p l.length c) l) {j : Nat} (hj : j < l.length) :
    ∃ g x, p = some ⟨g, 0, none⟩ ∧ l[j]? = some x ∧ x ∈ l ∧ w.cell? ⟨g, j * 2, none⟩ = some (iv x.start) ∧ w.cell? ⟨g, j * 2 + 1, none⟩ = some (.slice x.q x.fibs.length x.cap) := by
  obtain ⟨p', c', hpe, hown, _, _⟩ := owns_cap h.row
  cases hpe
  rcases hown with ⟨_, h0⟩ | ⟨g, sp, rfl, hg, hrow⟩
  · exfalso
    have := congrArg List.length h0
    rw [flat_len lrC 2 (fun _ => rfl)] at this
    simp at this; omega
  obtain ⟨x, hx⟩ : ∃ x, l[j]? = some x := ⟨l[j], List.getElem?_eq_getElem hj⟩
  exact ⟨g, x, rfl, hx, List.mem_of_getElem? hx, hrow.cell (by rw [List.getElem?_append_left (by rw [flat_len lrC 2 (fun _ => rfl)]; omega)]; exact flat_get lrC 2 (fun _ => rfl) l j 0 (by omega) x hx),
    hrow.cell (by rw [List.getElem?_append_left (by rw [flat_len lrC 2 (fun _ => rfl)]; omega)]; exact flat_get lrC 2 (fun _ => rfl) l j 1 (by omega) x hx)⟩
end Go.Proofs.Ytlapicgeokjpjaa

/- Contracts: the usable routes of a demand, the reference's side. -/
namespace Go.Proofs.Ytlapicgeokjpjaa
open Go.RowKit Go.PlainAid

/-- One more element at the end of a row of the call's own: where the row lies afterwards. -/
theorem wpList_app_x {T E : TypeId} {z : Value} {size bytes : Nat} (hu : Try.prog.underlying T = some (.slice E)) (hinfo : (Try.prog.info? E).map (fun i => (i.zero, i.size, i.bytes)) = some (some z, size, bytes))
    (hzs : z.cells.size = size) (hsz : 0 < size) (hby : bytes ≤ 128) {ops : Array Oper} {rest : List Oper} {o : Oper} {a : Act} {Q : Exit → Act → World → Prop} (w0 w1 : World) (v : Value) (n : Nat) (xs news : List Value)
    (g0 : Nat) (hl : news.length = size) (hone : ∀ u ∈ news, u.oneCell' = true) (hgd : o.guard = none) (s t : Operand)
    (ho : o.op = .call { callee := .builtin .append, args := #[s, t], argTypes := #[T, T] }) (hs : a.eval s = v) (hown : w1.ownsRow w0.heap.size E size v n xs)
    (hx : a.eval t = .slice (some ⟨g0, 0, none⟩) 1 1) (hg0 : g0 = w1.heap.size) (hn : n ≤ 1099511627775) (hf : Fresh w0 w1)
    (h : ∀ v' w', w'.ownsRow w0.heap.size E size v' (n + 1) (xs ++ news) → Fresh w0 w' → (∀ g t cs, RowAt w1 g t cs → (t ≠ E ∨ v.ownBlock ≠ some g) → RowAt w' g t cs) → (∀ k, v'.ownBlock = some k → v.ownBlock = some k ∨ w1.heap.size ≤ k) → w1.heap.size ≤ w'.heap.size → wpList Try.prog ops Q rest (a.put o.dst v') w') :
    wpList Try.prog ops Q (o :: rest) a (w1.alloc (.cells news.toArray E)) := by
  subst hg0
  obtain ⟨i0, hi, hz0, hz1, hz2⟩ := info_parts hinfo
  refine wpList_append_own_at _ hgd s t T ho w0.heap.size E i0 z size bytes hu hi hz0 hz1 hz2 hzs hsz v n xs hs (hown.alloc _) ⟨w1.heap.size, 0, none⟩ 1 1 news hx (by omega)
    (add_new w1 E news) hone (by unfold maxLen; omega) (Nat.le_trans (Nat.mul_le_mul (by omega : n + 1 ≤ 1099511627776) hby) (by omega)) (Nat.le_trans hf.size (by simp)) ?_
  intro v' w' hown' hgrow _ hblk
  refine h v' w' hown' (fgrown (fnew hf _) hgrow (own_block hown)) (fun g t cs hr ht => ?_) (fun k hk => ?_) (Nat.le_trans (by simp) hgrow.size)
  · rcases ht with ht | ht
    · exact row_grown hown hgrow hr ht
    · have hba := hr.alloc (.cells news.toArray E)
      unfold RowAt
      rw [hgrow.block g hba.lt (fun he => ht he.symm)]
      exact hba
  · rcases hblk with hb | hb
    · left; rw [← hb]; exact hk
    · right
      rw [hb] at hk
      cases hk
      simp
theorem ownsRow_typ {w w' : World} {base : Nat} {E T : TypeId} {size n : Nat} {V : Value} {xs : List Value} (h : w.ownsRow base E size V n xs) (hk : ∀ g t cs, RowAt w g t cs → t ≠ T → RowAt w' g t cs) (hT : E ≠ T) : w'.ownsRow base E size V n xs := by
  refine ⟨h.1, ?_⟩
  rcases h.2 with h | ⟨g, cap, cur, hv, hb, hh, r⟩
  · exact Or.inl h
  · exact Or.inr ⟨g, cap, cur, hv, hb, by have := hk g _ cur.toList (show RowAt w g _ cur.toList from by unfold RowAt; exact hh) hT; unfold RowAt at this; exact this, r⟩
theorem Rts.hk {w w' : World} {base : Nat} {p : Option Addr} {n c : Nat} {l : List LR} {v : Value} (h : Rts w base (.slice p n c) l) (hk : ∀ g t cs, RowAt w g t cs → (t ≠ 30 ∨ v.ownBlock ≠ some g) → RowAt w' g t cs) (hp : ∀ g o, p = some ⟨g, o, Option.none⟩ → v.ownBlock ≠ some g) : Rts w' base (.slice p n c) l := by
  refine ⟨?_, fun x hx => ?_, h.dist, h.cap⟩
  · obtain ⟨a1, a2⟩ := h.row
    refine ⟨a1, ?_⟩
    rcases a2 with a2 | ⟨g, cap, cur, hv, hb, hh, r⟩
    · exact Or.inl a2
    · refine Or.inr ⟨g, cap, cur, hv, hb, ?_, r⟩
      cases hv
      have := hk g _ cur.toList (show RowAt w g _ cur.toList from by unfold RowAt; exact hh) (Or.inr (hp g 0 rfl))
      unfold RowAt at this; exact this
  · rcases h.fib x hx with h1 | ⟨b, sp, h1, h2, h3⟩
    · exact Or.inl h1
    · exact Or.inr ⟨b, sp, h1, h2, hk _ _ _ h3 (Or.inl (by decide))⟩
theorem Rts.hkI {w w' : World} {base : Nat} {V : Value} {l : List LR} {v : Value} (h : Rts w base V l) (hk : ∀ g t cs, RowAt w g t cs → (t ≠ 3 ∨ v.ownBlock ≠ some g) → RowAt w' g t cs) (hp : ∀ x ∈ l, ∀ g o, x.q = some ⟨g, o, Option.none⟩ → v.ownBlock ≠ some g) : Rts w' base V l := by
  refine ⟨ownsRow_typ h.row (fun g t cs h n => hk g t cs h (Or.inl n)) (by decide), fun x hx => ?_, h.dist, h.cap⟩
  rcases h.fib x hx with h1 | ⟨b, sp, h1, h2, h3⟩
  · exact Or.inl h1
  · exact Or.inr ⟨b, sp, h1, h2, hk _ _ _ h3 (Or.inr (hp x hx b 0 h1))⟩
/-- Routes with their numbers in two rows of the call's own. -/
structure Uss (w : World) (base : Nat) (V : Value) (pk : Option Addr) (ck : Nat) (l : List CH) : Prop where
  rts : Rts w base V (l.map CH.r)
  ks : w.ownsRow base 3 1 (.slice pk l.length ck) l.length (l.map fun x => iv x.k)
theorem Uss.keep {w w' : World} {base : Nat} {V : Value} {pk : Option Addr} {ck : Nat} {l : List CH} (h : Uss w base V pk ck l) (hb : Fresh w w') : Uss w' base V pk ck l := ⟨h.rts.keep hb, ownsRow_keep h.ks hb⟩
theorem Rts.monoR {w : World} {base base' : Nat} {V : Value} {l : List LR} (h : Rts w base V l) (hb : base' ≤ base) : Rts w base' V l := ⟨owns_mono h.row hb, fun x hx => (h.fib x hx).mono hb, h.dist, h.cap⟩
theorem Uss.mono {w : World} {base base' : Nat} {V : Value} {pk : Option Addr} {ck : Nat} {l : List CH} (h : Uss w base V pk ck l) (hb : base' ≤ base) : Uss w base' V pk ck l := ⟨h.rts.monoR hb, owns_mono h.ks hb⟩
def OutU (n : Net) (fm : List (Int × Int)) (d : Fib) (w : World) (e : Ending) (w' : World) : Prop := ∃ (V : Value) (pk : Option Addr) (ck : Nat) (l : List CH), e = .returned (.tuple #[V, .slice pk l.length ck, .bool (usOk n fm d)]) ∧ Uss w' w.heap.size V pk ck l ∧ l.map CH.val = (usF n fm d).1 ∧ Fresh w w'
theorem chsR_len (n : Net) (fm : List (Int × Int)) (r : Int) (l : List LR) : ((chsOf n fm r l).map CH.r).length = (chsOf n fm r l).length := by simp
end Go.Proofs.Ytlapicgeokjpjaa

/- Contracts: UsableRoutes, both sides. -/
namespace Go.Proofs.Ytlapicgeokjpjaa
open Go.RowKit Go.PlainAid

theorem kq3 {w1 w2 : World} {b : Nat} {v0 v1 v2 : Value} (h : w1.cell? ⟨b, 0, none⟩ = some v0 ∧ w1.cell? ⟨b, 1, none⟩ = some v1 ∧ w1.cell? ⟨b, 2, none⟩ = some v2) (hb : Fresh w1 w2) : w2.cell? ⟨b, 0, none⟩ = some v0 ∧ w2.cell? ⟨b, 1, none⟩ = some v1 ∧ w2.cell? ⟨b, 2, none⟩ = some v2 := ⟨fkeep hb h.1, fkeep hb h.2.1, fkeep hb h.2.2⟩
theorem outU_no {n : Net} {fm : List (Int × Int)} {d : Fib} {w w' : World} (h : usOk n fm d = false) (hf : Fresh w w') : OutU n fm d w (.returned (.tuple #[.slice none 0 0, .slice none 0 0, .bool false])) w' :=
  ⟨_, none, 0, [], by rw [h]; rfl, ⟨Rts.none _ _, ⟨rfl, Or.inl ⟨rfl, rfl⟩⟩⟩, by rw [usF_no h]; rfl, hf⟩
theorem usOk_no {n : Net} {fm : List (Int × Int)} {d : Fib} (h : usB n fm d = false) : usOk n fm d = false := by unfold usOk; rw [h]; rfl
theorem ch_len {n : Net} {fm : List (Int × Int)} {d : Fib} {l : List CH} (h : l.map CH.val = (usF n fm d).1) : l.length ≤ 200 := by
  have h1 := usF_len n fm d
  rw [← h] at h1
  simpa using h1
/-- As OutU, the row of the slots apart from those of the fibers. -/
def OutU2 (n : Net) (fm : List (Int × Int)) (d : Fib) (w : World) (e : Ending) (w' : World) : Prop := ∃ (V : Value) (pk : Option Addr) (ck : Nat) (l : List CH), e = .returned (.tuple #[V, .slice pk l.length ck, .bool (usOk n fm d)]) ∧ Uss w' w.heap.size V pk ck l ∧ l.map CH.val = (usF n fm d).1 ∧ (∀ x ∈ l, ∀ g o h o', x.r.q = some ⟨g, o, none⟩ → pk = some ⟨h, o', none⟩ → g ≠ h) ∧ Fresh w w'
theorem outU2_no {n : Net} {fm : List (Int × Int)} {d : Fib} {w w' : World} (h : usOk n fm d = false) (hf : Fresh w w') : OutU2 n fm d w (.returned (.tuple #[.slice none 0 0, .slice none 0 0, .bool false])) w' :=
  ⟨_, none, 0, [], by rw [h]; rfl, ⟨Rts.none _ _, ⟨rfl, Or.inl ⟨rfl, rfl⟩⟩⟩, by rw [usF_no h]; rfl, (by intro x hx; cases hx), hf⟩
end Go.Proofs.Ytlapicgeokjpjaa

