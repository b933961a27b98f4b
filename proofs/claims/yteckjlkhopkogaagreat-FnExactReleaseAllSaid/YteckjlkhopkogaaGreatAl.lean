/- Contracts: all routes between two nodes, both sides. -/
import Derived.Test.YteckjlkhopkogaaGreatSe
import Derived.Laws.EntriesVeiled
namespace Go.Proofs.YteckjlkhopkogaaGreat
open Go.RowKit Go.PlainAid

set_option maxHeartbeats 2000000 in
theorem intIndex_any (cl : FuncId) (p : Option Addr) (cap : Nat) (l : List Int) (g : Int → Bool) (cp : Array Value) (w : World) (hl : Ints w p l) (hn : l.length ≤ 1048576) (eg : ∀ args w, (callFunc cl args).run Tryz.prog w = .ok (.enter cl args) w)
    (hcl : ∀ x ∈ l, ∀ (w' : World), Fresh w w' → Calls Tryz.prog cl (#[.int .i64 x] ++ cp) w' fun e w'' => e = .returned (.bool (g x)) ∧ Fresh w' w'') :
    Calls Tryz.prog 92 #[.slice p l.length cap, .func (.func cl) #[] cp] w fun e w' => e = .returned (.int .i64 (idxP l g)) ∧ Fresh w w' := by
  have HC := Lib.hid hcl
  clear hcl
  go_enter Tryz.func92, Tryz.ntmps92
  go_wp2
  go_loopw [5, 8] (fun _ i wr => ∃ k : Nat, k ≤ l.length ∧ i = .int .i64 k ∧ (∀ j y, j < k → l[j]? = some y → g y = false) ∧ Fresh w wr) (fun _ i _ => l.length - (intOf i).toNat)
  case atStart => exact ⟨0, Nat.zero_le _, rfl, fun j y hj => by omega, frefl _⟩
  case round =>
    obtain ⟨k, hk, rfl, hall, hf⟩ := hrel
    have HA := Lib.hid hall
    clear hall
    have HF := Lib.hid hf
    by_cases hlt : k < l.length
    · obtain ⟨b, off, x, rfl, hx, hc0⟩ := (hl.keep hf).at hlt
      have hltz : (k : Int) < (l.length : Int) := by omega
      have HM := Lib.hid (List.mem_of_getElem? hx)
      clear hf
      cases hg : g x
      · have HE := Lib.hid (notP HA.out hx hg)
        clear hx
        go_wp2_with fail
        refine (HC.out x HM.out _ HF.out).mono ?_
        rintro e w1 ⟨rfl, hb⟩
        have HB := Lib.hid (fstep HF.out hb)
        clear hb
        go_wp2
        go_roundw
        case rel => exact ⟨k + 1, by omega, by go_num, HE.out, HB.out⟩
        case measure => simp [intOf]; omega
      · have HE := Lib.hid (idxP_at HA.out hx hg)
        clear hx
        go_wp2_with fail
        refine (HC.out x HM.out _ HF.out).mono ?_
        rintro e w1 ⟨rfl, hb⟩
        have HB := Lib.hid (fstep HF.out hb)
        clear hb
        go_wp2
        go_ret
        exact ⟨ret_int HE.out.symm, HB.out⟩
    · have hkn : k = l.length := by omega
      have hltz : ¬ (k : Int) < (l.length : Int) := by omega
      have HE := Lib.hid (idxP_none (l := l) (f := g) (by rw [← hkn]; exact HA.out))
      clear hf
      go_wp2
      go_ret
      exact ⟨ret_int HE.out.symm, HF.out⟩
set_option maxHeartbeats 1000000 in
theorem intContains_any (cl : FuncId) (p : Option Addr) (cap : Nat) (l : List Int) (g : Int → Bool) (cp : Array Value) (w : World) (hl : Ints w p l) (hn : l.length ≤ 1048576) (eg : ∀ args w, (callFunc cl args).run Tryz.prog w = .ok (.enter cl args) w)
    (hcl : ∀ x ∈ l, ∀ (w' : World), Fresh w w' → Calls Tryz.prog cl (#[.int .i64 x] ++ cp) w' fun e w'' => e = .returned (.bool (g x)) ∧ Fresh w' w'') :
    Calls Tryz.prog 50 #[.slice p l.length cap, .func (.func cl) #[] cp] w fun e w' => e = .returned (.bool (l.any g)) ∧ Fresh w w' := by
  have HI := Lib.hid (intIndex_any cl p cap l g cp w hl hn eg hcl)
  have HE := Lib.hid (idxP_any l g)
  clear hcl hl
  go_enter Tryz.func50, Tryz.ntmps50
  go_wp2_with fail
  refine HI.out.mono ?_
  rintro e w1 ⟨rfl, hb⟩
  have HB := Lib.hid hb
  clear hb
  go_wp2
  go_ret
  exact ⟨ret_bool HE.out, HB.out⟩
set_option maxHeartbeats 1000000 in
theorem isNodeClo_any (q p : Option Addr) (N F c d h : Nat) (x : Int) (w : World) (hN : N ≤ 1048576) (hr : RowAt w h 35 [.slice q N c, .slice p F d]) :
    Calls Tryz.prog 211 #[.int .i64 x, .pointer (some ⟨h, 0, none⟩)] w fun e w' => e = .returned (.bool (!inB x 0 ((N : Int) - 1))) ∧ Fresh w w' := by
  have c0 := hr.cell (i := 0) rfl
  have hw1 : IntKind.i64.wrap ((N : Int) - 1) = (N : Int) - 1 := by rw [IntKind.wrap_i64]; omega
  clear hr
  go_enter Tryz.func211, Tryz.ntmps211
  go_wp2_with (go_at_call 125; refine (within_any _ _ _ _).mono ?_; rintro e w1 ⟨rfl, rfl⟩)
  go_ret
  exact ⟨rfl, frefl _⟩
theorem enters_isNode (args : Array Value) (w : World) : (callFunc 211 args).run Tryz.prog w = .ok (.enter 211 args) w := enters_of Tryz.func211 (by kernel_rfl) rfl args w
def nodesB (n : Net) (l : List Int) : Bool := netB n && !(l.any fun x => !inB x 0 ((n.nodes.length : Int) - 1))
set_option maxHeartbeats 2000000 in
theorem isNode_any (v : Value) (n : Net) (p : Option Addr) (cap : Nat) (l : List Int) (w : World) (h : NetIn w v n) (hl : Ints w p l) (hn : l.length ≤ 1048576) :
    Calls Tryz.prog 193 #[v, .slice p l.length cap] w fun e w' => e = .returned (.bool (nodesB n l)) ∧ Fresh w w' := by
  have hmf : ∀ (fn : Fn) (first cap : Array Value) (w : World), (Instr.makeFunc fn first cap).run Tryz.prog w = .ok (.func fn first cap) w := fun _ _ _ _ => rfl
  have HN := Lib.hid h
  have HL := Lib.hid hl
  obtain ⟨qn, cn, pn, cp, rfl, _, _, n1, _, _, _, _⟩ := h
  obtain ⟨W2, hW2⟩ : ∃ W, W = w.alloc (.cells #[.slice qn n.nodes.length cn, .slice pn n.fibers.length cp] 35) := ⟨_, rfl⟩
  have hf2 : Fresh w W2 := by rw [hW2]; exact fnew (frefl _) _
  have hr2 : RowAt W2 w.heap.size 35 [.slice qn n.nodes.length cn, .slice pn n.fibers.length cp] := by rw [hW2]; exact RowAt.new _ _ _
  have HF2 := Lib.hid hf2
  have HR2 := Lib.hid hr2
  have HW2 := Lib.hid hW2
  have HOK := Lib.hid (implIsValidNetwork_any _ n W2 (HN.out.keep hf2))
  have HCT : Hid (∀ W, Fresh W2 W → Calls Tryz.prog 50 #[.slice p l.length cap, .func (.func 211) #[] #[.pointer (some ⟨w.heap.size, 0, none⟩)]] W fun e w' => e = .returned (.bool (l.any fun x => !inB x 0 ((n.nodes.length : Int) - 1))) ∧ Fresh W w') := fun W hW =>
    intContains_any 211 p cap l _ _ W ((HL.out.keep HF2.out).keep hW) hn enters_isNode fun x _ w' hw => isNodeClo_any qn pn n.nodes.length n.fibers.length cn cp w.heap.size x w' n1 ((HR2.out.keep hW).keep hw)
  have HDEF : Hid (nodesB n l = (netB n && !(l.any fun x => !inB x 0 ((n.nodes.length : Int) - 1)))) := rfl
  clear hl hf2 hr2 hW2
  cases hB : netB n
  · rw [hB] at HOK HDEF
    go_enter Tryz.func193, Tryz.ntmps193
    go_wp2_with fail
    rw [← HW2.out]
    refine (HOK.out).mono ?_
    rintro e w1 ⟨rfl, hb⟩
    have HB := Lib.hid hb
    clear hb
    go_wp2
    go_ret
    exact ⟨ret_bool HDEF.out.symm, fstep HF2.out HB.out⟩
  · rw [hB] at HOK HDEF
    go_enter Tryz.func193, Tryz.ntmps193
    go_wp2_with fail
    rw [← HW2.out]
    refine (HOK.out).mono ?_
    rintro e w1 ⟨rfl, hb⟩
    have HB := Lib.hid hb
    clear hb
    go_wp2_with fail
    refine (HCT.out _ HB.out).mono ?_
    rintro e w3 ⟨rfl, hb3⟩
    have HB3 := Lib.hid hb3
    clear hb3
    go_wp2
    go_ret
    exact ⟨ret_bool (by rw [HDEF.out]; rfl), fstep HF2.out (fstep HB.out HB3.out)⟩
/-- Whether there are routes to tell of, and few enough. -/
def pairB (n : Net) (s t : Int) : Bool := netB n && (inB s 0 ((n.nodes.length : Int) - 1) && (inB t 0 ((n.nodes.length : Int) - 1) && decide (s ≠ t)))
def okA (n : Net) (s t : Int) : Bool := pairB n s t && decide ((allR n s t).length ≤ 200)
def allA (n : Net) (s t : Int) : List (Int × List Int) := if okA n s t then allR n s t else []
theorem pairB_nodes (n : Net) (s t : Int) : pairB n s t = (nodesB n [s, t] && decide (s ≠ t)) := by
  unfold pairB nodesB
  simp only [List.any_cons, List.any_nil]
  cases netB n <;> cases inB s 0 ((n.nodes.length : Int) - 1) <;> cases inB t 0 ((n.nodes.length : Int) - 1) <;> simp
theorem pairB_in {n : Net} {s t : Int} (h : pairB n s t = true) : netB n = true ∧ (0 ≤ s ∧ s < (n.nodes.length : Int)) ∧ (0 ≤ t ∧ t < (n.nodes.length : Int)) ∧ s ≠ t := by
  unfold pairB at h
  simp only [Bool.and_eq_true, inB_iff, decide_eq_true_eq] at h
  obtain ⟨h1, h2, h3, h4⟩ := h
  exact ⟨h1, by omega, by omega, h4⟩
theorem okA_pair {n : Net} {s t : Int} (h : okA n s t = true) : pairB n s t = true := by unfold okA at h; simp only [Bool.and_eq_true] at h; exact h.1
theorem Rts.none (w : World) (base : Nat) : Rts w base (.slice none 0 0) [] := Rts.nil _ _ ⟨rfl, Or.inl ⟨rfl, rfl⟩⟩
/-- What both sides hand back. -/
def OutA (n : Net) (s t : Int) (w : World) (e : Ending) (w' : World) : Prop := ∃ (V : Value) (l : List LR), e = .returned (.tuple #[V, .bool (okA n s t)]) ∧ Rts w' w.heap.size V l ∧ l.map LR.val = allA n s t ∧ Fresh w w'
theorem outA_no {n : Net} {s t : Int} {w w' : World} (h : okA n s t = false) (hf : Fresh w w') : OutA n s t w (.returned (.tuple #[.slice none 0 0, .bool false])) w' := ⟨_, [], by rw [h], Rts.none _ _, by unfold allA; rw [h]; rfl, hf⟩
set_option maxHeartbeats 2000000 in
theorem implAllRoutes_any (v : Value) (n : Net) (s t : Int) (w : World) (h : NetIn w v n) :
    Calls Tryz.prog 164 #[v, .int .i64 s, .int .i64 t] w (OutA n s t w) := by
  have HN := Lib.hid h
  obtain ⟨qn, cn, pn, cp, rfl, _, _, n1, _, _, _, _⟩ := h
  obtain ⟨W2, hW2⟩ : ∃ W, W = (w.alloc (.cells #[.slice qn n.nodes.length cn, .slice pn n.fibers.length cp] 35)).alloc (.cells #[.int .i64 s, .int .i64 t] 3) := ⟨_, rfl⟩
  have hf2 : Fresh w W2 := by rw [hW2]; exact fnew (fnew (frefl _) _) _
  have hr1 : RowAt W2 w.heap.size 35 [.slice qn n.nodes.length cn, .slice pn n.fibers.length cp] := by rw [hW2]; exact (RowAt.new _ _ _).alloc _
  have hr2 : RowAt W2 (w.heap.size + 1) 3 [.int .i64 s, .int .i64 t] := by
    rw [hW2]
    have := RowAt.new (w.alloc (.cells #[.slice qn n.nodes.length cn, .slice pn n.fibers.length cp] 35)) 3 [.int .i64 s, .int .i64 t]
    simpa using this
  have HF2 := Lib.hid hf2
  have HR1 := Lib.hid hr1
  have HW2 := Lib.hid hW2
  have HIS := Lib.hid (isNode_any _ n (some ⟨w.heap.size + 1, 0, none⟩) 2 [s, t] W2 (HN.out.keep hf2) hr2.cells (by simp))
  have HPB := Lib.hid (pairB_nodes n s t)
  clear hf2 hr1 hr2 hW2
  cases hB : nodesB n [s, t]
  · rw [hB] at HIS HPB
    have HNO : Hid (okA n s t = false) := by show _ = _; unfold okA; rw [HPB.out]; rfl
    go_enter Tryz.func164, Tryz.ntmps164
    go_wp2_with fail
    rw [← HW2.out]
    refine (HIS.out).mono ?_
    rintro e w1 ⟨rfl, hb⟩
    have HB := Lib.hid hb
    clear hb
    go_wp2
    go_ret2
    exact outA_no HNO.out (fstep HF2.out HB.out)
  · rw [hB] at HIS HPB
    by_cases hst : s = t
    · have hz : (s == t) = true := by simp [hst]
      have HNO : Hid (okA n s t = false) := by show _ = _; unfold okA; rw [HPB.out]; simp [hst]
      clear hst
      go_enter Tryz.func164, Tryz.ntmps164
      go_wp2_with fail
      rw [← HW2.out]
      refine (HIS.out).mono ?_
      rintro e w1 ⟨rfl, hb⟩
      have HB := Lib.hid hb
      clear hb
      go_wp2
      go_ret2
      exact outA_no HNO.out (fstep HF2.out HB.out)
    · have hz : (s == t) = false := by rw [beq_eq_false_iff_ne]; exact hst
      have hpr : pairB n s t = true := by rw [HPB.out]; simp [hst]
      have HPR := Lib.hid hpr
      have HIN := Lib.hid (pairB_in hpr)
      clear hst hpr
      go_enter Tryz.func164, Tryz.ntmps164
      go_wp2_with fail
      rw [← HW2.out]
      refine (HIS.out).mono ?_
      rintro e w1 ⟨rfl, hb⟩
      have HF1 := Lib.hid (fstep HF2.out hb)
      have c0 := (HR1.out.keep hb).cell (i := 0) rfl
      have c1 := (HR1.out.keep hb).cell (i := 1) rfl
      clear hb
      go_wp2_with fail
      refine (routesBetween_any _ n s t w1 (HN.out.keep HF1.out) HIN.out.1 HIN.out.2.1).mono ?_
      rintro e w3 ⟨V, l, rfl, hr, hv, hf⟩
      obtain ⟨p', c', rfl, _, hc, _⟩ := owns_cap hr.row
      have hll : l.length = (allR n s t).length := by rw [← hv]; simp
      have HLL := Lib.hid hll
      have HF3 := Lib.hid (fstep HF1.out hf)
      have HRT := Lib.hid (show Rts w3 w.heap.size _ l from ⟨owns_mono hr.row HF1.out.size, fun x hx => (hr.fib x hx).mono HF1.out.size, hr.dist, hr.cap⟩)
      have HV := Lib.hid hv
      clear hr hv hf hll c0 c1
      by_cases h200 : l.length ≤ 200
      · have hgt : ¬ (200 : Int) < (l.length : Int) := by omega
        have HOK : Hid (okA n s t = true) := by show _ = _; unfold okA; rw [HPR.out, ← HLL.out]; simp [h200]
        go_wp2
        go_ret2
        exact ⟨_, l, by rw [HOK.out]; (first | done | rfl), HRT.out, by unfold allA; rw [HOK.out]; exact HV.out, HF3.out⟩
      · have hgt : (200 : Int) < (l.length : Int) := by omega
        have HNO : Hid (okA n s t = false) := by show _ = _; unfold okA; rw [HPR.out, ← HLL.out]; simp; omega
        go_wp2
        go_ret2
        exact outA_no HNO.out HF3.out
end Go.Proofs.YteckjlkhopkogaaGreat
