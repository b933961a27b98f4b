/- Contracts: the smallest assignment, the program's search (a closure that calls itself). -/
import Derived.Test.YtmpdljcihiidaaaGreatAxP
import Derived.Test.YtmpdljcihiidaaaGreatAg2
import Derived.Test.YtmpdljcihiidaaaGreatGp
import Derived.Test.YtmpdljcihiidaaaGreatPc4
namespace Go.Proofs.YtmpdljcihiidaaaGreat
open Go.RowKit Go.PlainAid

theorem owns_cut {w : World} {base size n m c : Nat} {E : TypeId} {q : Option Addr} {xs : List Value} (h : w.ownsRow base E size (.slice q n c) n xs) (hm : m ≤ n) : w.ownsRow base E size (.slice q m c) m (xs.take (m * size)) := by
  have hmn : m * size ≤ n * size := Nat.mul_le_mul_right _ hm
  obtain ⟨h1, h2 | ⟨g, cap, cur, hv, hb, hh, h3, h4, h5, h6⟩⟩ := h
  · obtain ⟨e1, e2⟩ := h2
    have hm0 : m = 0 := by omega
    subst hm0
    cases e1
    exact ⟨by simp, Or.inl ⟨rfl, rfl⟩⟩
  · cases hv
    refine ⟨by rw [List.length_take, h1]; omega, Or.inr ⟨g, c, cur, rfl, hb, hh, by omega, h4, h5, ?_⟩⟩
    rw [← h6, List.take_take, Nat.min_eq_left hmn]
theorem exTr_any (j k : Nat) (h : Nat) (w : World) (hc : w.cell? ⟨h, 0, none⟩ = some (.int .i64 (k : Int))) :
    Calls Tryz.prog 114 (#[.int .i64 (j : Int)] ++ #[.pointer (some ⟨h, 0, none⟩)]) w fun e w' => e = .returned (.bool (decide (j < k))) ∧ Fresh w w' := by
  go_enter Tryz.func114, Tryz.ntmps114
  go_wp2
  go_ret
  exact ⟨rfl, frefl _⟩
theorem enters_tr (args : Array Value) (w : World) : (callFunc 114 args).run Tryz.prog w = .ok (.enter 114 args) w := enters_of Tryz.func114 (by kernel_rfl) rfl args w
theorem pre_good {pre : List (Int × Int)} (h : AGood pre) (n i : Nat) : ∀ k, k < n → k ≠ i → (fun k => decide (k < pre.length)) k = true → ∃ b, pre[k]? = some b ∧ goodB b.1 b.2 = true := by
  intro k _ _ hk
  have hk' : k < pre.length := of_decide_eq_true hk
  exact ⟨pre[k], List.getElem?_eq_getElem hk', h _ (List.getElem_mem hk')⟩
theorem exFree_any (p q : Option Addr) (cap c : Nat) (l : List LQ) (pre : List (Int × Int)) (f cn : Int) (bi : Nat) (w : World) (hl : Reqs w p l) (hs : ReqsSmall l) (hq : Prs w q pre) (hil : pre.length < l.length) (hn : pre.length ≤ 1048576) (hg : AGood pre) (hgd : goodB f cn = true) (hc : w.cell? ⟨bi, 0, none⟩ = some (.int .i64 (pre.length : Int))) :
    Calls Tryz.prog 113 #[.slice p l.length cap, .slice q pre.length c, .int .i64 (pre.length : Int), .agg #[.int .i64 f, .int .i64 cn], .func (.func 114) #[] #[.pointer (some ⟨bi, 0, none⟩)]] w fun e w' => e = .returned (.bool (freeAt (takenTo (l.map LQ.val) pre pre.length (l.map LQ.val).length : Int) cn f)) ∧ Fresh w w' := by
  have h1 := isFree_any 114 #[.pointer (some ⟨bi, 0, none⟩)] p q cap c l pre pre.length f cn (fun k => decide (k < pre.length)) w hl hs hq hil hn hgd (pre_good hg _ _) enters_tr (fun k _ w' hw => exTr_any k pre.length bi w' (fkeep hw hc))
  refine h1.mono fun e w' h => ⟨?_, h.2⟩
  rw [h.1, free_pre hg hgd]
/-- What the search's variables hold. -/
structure ExSt (w0 w : World) (a0 a1 a2 a3 : Nat) (p : Option Addr) (cap n : Nat) (h : Int) (pre : List (Int × Int)) : Prop where
  fr : Fresh w0 w
  bl : ∃ q c, RowAt w a0 29 [.slice q pre.length c] ∧ w.ownsRow w0.heap.size 71 2 (.slice q pre.length c) pre.length (pcs pre)
  li : RowAt w a1 36 [.slice p n cap]
  he : RowAt w a2 3 [.int .i64 h]
  se : RowAt w a3 126 [.func (.func 112) #[] #[.pointer (some ⟨a0, 0, none⟩), .pointer (some ⟨a1, 0, none⟩), .pointer (some ⟨a2, 0, none⟩), .pointer (some ⟨a3, 0, none⟩)]]
theorem ExSt.keep {w0 w w' : World} {a0 a1 a2 a3 : Nat} {p : Option Addr} {cap n : Nat} {h : Int} {pre : List (Int × Int)} (st : ExSt w0 w a0 a1 a2 a3 p cap n h pre) (hb : Fresh w w') : ExSt w0 w' a0 a1 a2 a3 p cap n h pre := by
  obtain ⟨fr, ⟨q, c, rb, ow⟩, rl, rh, rs⟩ := st
  exact ⟨fstep fr hb, ⟨q, c, rb.keep hb, ownsRow_keep ow hb⟩, rl.keep hb, rh.keep hb, rs.keep hb⟩
/-- Rows of other types than blocks stay, but for the variable. -/
def KpT (a0 : Nat) (w w' : World) : Prop := ∀ g t cs, RowAt w g t cs → t ≠ 71 → g ≠ a0 → RowAt w' g t cs
theorem KpT.trans {a0 : Nat} {a b c : World} (h : KpT a0 a b) (k : KpT a0 b c) : KpT a0 a c := fun g t cs hr n1 n2 => k g t cs (h g t cs hr n1 n2) n1 n2
theorem KpT.fresh {a0 : Nat} {a b : World} (h : Fresh a b) : KpT a0 a b := fun g t cs hr _ _ => hr.keep h
theorem KpT.refl (a0 : Nat) (w : World) : KpT a0 w w := fun _ _ _ h _ _ => h
theorem KpT.set {a0 : Nat} {w : World} (i : Nat) (v : Value) : KpT a0 w (w.setCell ⟨a0, i, none⟩ v) := fun g t cs h _ hn => h.setOther hn v
/-- The variable is written again. -/
theorem ExSt.put {w0 w : World} {a0 a1 a2 a3 : Nat} {p : Option Addr} {cap n : Nat} {h : Int} {pre : List (Int × Int)} {v : Value} {q : Option Addr} {c : Nat} (fr : Fresh w0 w) (g0 : w0.heap.size ≤ a0) (n1 : a1 ≠ a0) (n2 : a2 ≠ a0) (n3 : a3 ≠ a0) (rb : RowAt w a0 29 [v]) (ow : w.ownsRow w0.heap.size 71 2 (.slice q pre.length c) pre.length (pcs pre))
    (rl : RowAt w a1 36 [.slice p n cap]) (rh : RowAt w a2 3 [.int .i64 h]) (rs : RowAt w a3 126 [.func (.func 112) #[] #[.pointer (some ⟨a0, 0, none⟩), .pointer (some ⟨a1, 0, none⟩), .pointer (some ⟨a2, 0, none⟩), .pointer (some ⟨a3, 0, none⟩)]]) :
    ExSt w0 (w.setCell ⟨a0, 0, none⟩ (.slice q pre.length c)) a0 a1 a2 a3 p cap n h pre :=
  ⟨fset fr g0 _, ⟨q, c, rb.set 0 _, owns_setO ow rb (by decide) 0⟩, rl.setOther n1 _, rh.setOther n2 _, rs.setOther n3 _⟩
set_option maxHeartbeats 8000000 in
set_option maxRecDepth 100000 in
theorem exClo_any (w0 : World) (a0 a1 a2 a3 : Nat) (p : Option Addr) (cap : Nat) (l : List LQ) (h : Int) (hl : Reqs w0 p l) (hs : ReqsSmall l) (hc : CntOne (l.map LQ.val)) (h7 : l.length ≤ 7) (h0 : 0 ≤ h) (h24 : h ≤ 24) (g0 : w0.heap.size ≤ a0) (n1 : a1 ≠ a0) (n2 : a2 ≠ a0) (n3 : a3 ≠ a0) :
    ∀ (k : Nat) (pre : List (Int × Int)) (w : World), pre.length + k = l.length → AGood pre → ExSt w0 w a0 a1 a2 a3 p cap l.length h pre →
      Calls Tryz.prog 112 #[.pointer (some ⟨a0, 0, none⟩), .pointer (some ⟨a1, 0, none⟩), .pointer (some ⟨a2, 0, none⟩), .pointer (some ⟨a3, 0, none⟩)] w fun e w' => e = .returned (.bool (exS (l.map LQ.val) h k pre).isSome) ∧ ExSt w0 w' a0 a1 a2 a3 p cap l.length h ((exS (l.map LQ.val) h k pre).getD pre) ∧ KpT a0 w w' := by
  have hmf : ∀ (fn : Fn) (first cap : Array Value) (w : World), (Instr.makeFunc fn first cap).run Tryz.prog w = .ok (.func fn first cap) w := fun _ _ _ _ => rfl
  have HL := Lib.hid hl
  have HSM := Lib.hid hs
  have HC := Lib.hid hc
  have HML : Hid ((l.map LQ.val).length = l.length) := by show _ = _; simp
  clear hl hs hc
  intro k
  induction k with
  | zero =>
    intro pre w hk hg st
    have HST := Lib.hid st
    obtain ⟨fr, ⟨q, c, rb, ow⟩, rl, rh, rs⟩ := st
    have y0 := rb.cell (i := 0) rfl
    have y1 := rl.cell (i := 0) rfl
    have hz : ((pre.length : Int) == (l.length : Int)) = true := by simp; omega
    have y1' := fun o : Obj => fkeep (fnew (frefl w) o) y1
    clear fr rb ow rl rh rs hk
    go_enter Tryz.func112, Tryz.ntmps112
    go_wp2
    go_ret
    exact ⟨rfl, HST.out.keep (fnew (frefl _) _), KpT.fresh (fnew (frefl _) _)⟩
  | succ k ih =>
    intro pre w hk hg st
    have HST := Lib.hid st
    obtain ⟨fr, ⟨q, c, rb, ow⟩, rl, rh, rs⟩ := st
    have y0 := rb.cell (i := 0) rfl
    have y1 := rl.cell (i := 0) rfl
    have hz : ((pre.length : Int) == (l.length : Int)) = false := by rw [beq_eq_false_iff_ne]; omega
    have hil : pre.length < l.length := by omega
    have hn7 : pre.length ≤ 7 := by omega
    have HIH := Lib.hid ih
    have HG := Lib.hid hg
    obtain ⟨R, hR⟩ : ∃ R, R = exS (l.map LQ.val) h (k + 1) pre := ⟨_, rfl⟩
    have HR := Lib.hid hR
    obtain ⟨cn, hcn⟩ : ∃ c, c = cntOf (l.map LQ.val) pre.length := ⟨_, rfl⟩
    obtain ⟨x0, hx0⟩ : ∃ x, l[pre.length]? = some x := ⟨_, List.getElem?_eq_getElem hil⟩
    have hcx : cn = x0.count := by rw [hcn]; exact cntOf_of (rq_at hx0)
    have hc1 := HC.out x0.val (List.mem_map_of_mem (List.mem_of_getElem? hx0))
    simp only [LQ.val] at hc1
    rw [← hcx] at hc1
    have HX0 := Lib.hid hx0
    have HCX := Lib.hid hcx
    have HCN := Lib.hid hcn
    obtain ⟨T, hT⟩ : ∃ T : Int, T = (takenTo (l.map LQ.val) pre pre.length (l.map LQ.val).length : Int) := ⟨_, rfl⟩
    have HTT := Lib.hid hT
    rw [← hR]
    obtain ⟨W2, hW2⟩ : ∃ W, W = w.alloc (.cells #[.int .i64 (pre.length : Int)] 3) := ⟨_, rfl⟩
    have hf2 : Fresh w W2 := by rw [hW2]; exact fnew (frefl _) _
    have hr2 : RowAt W2 w.heap.size 3 [.int .i64 (pre.length : Int)] := by rw [hW2]; exact RowAt.new _ _ _
    have HF2 := Lib.hid hf2
    have HR2 := Lib.hid hr2
    have HW2 := Lib.hid hW2
    have ha0 : a0 < w.heap.size := rb.lt
    have y0' := fun o : Obj => fkeep (fnew (frefl w) o) y0
    have y1' := fun o : Obj => fkeep (fnew (frefl w) o) y1
    have HK := Lib.hid hk
    clear fr rb ow rl rh rs hk ih hR hcn hx0 hcx hT hg hf2 hr2 hW2
    go_enter Tryz.func112, Tryz.ntmps112
    go_wp2_with fail
    rw [← HW2.out]
    clear y0 y1 y0' y1'
    go_loopw [6] (fun i wr => ∃ f : Nat, f ≤ 24 ∧ i = .int .i64 f ∧ ExSt w0 wr a0 a1 a2 a3 p cap l.length h pre ∧ (∀ g : Nat, g < f → (g : Int) + cn ≤ h → freeAt T cn g = true → exS (l.map LQ.val) h k (pre ++ [((g : Int), cn)]) = none) ∧ KpT a0 W2 wr) (fun i _ => 25 - (intOf i).toNat)
    case atStart => exact ⟨0, by omega, rfl, HST.out.keep HF2.out, fun g hg => by omega, KpT.refl _ _⟩
    case round =>
      obtain ⟨f, hf24, rfl, st, hno, hkp⟩ := hrel
      have HS := Lib.hid st
      have HNO := Lib.hid hno
      have HKP := Lib.hid hkp
      have hri := hkp _ _ _ HR2.out (by decide) (by omega)
      have HRI := Lib.hid hri
      obtain ⟨fr, ⟨q, c, rb, ow⟩, rl, rh, rs⟩ := st
      obtain ⟨b, off, x, hpe, hx, hm, _, _, _, d2⟩ := (HL.out.keep fr).at hil
      have hxx : x = x0 := by have := HX0.out; rw [hx] at this; exact Option.some.inj this
      subst hxx
      rw [← HCX.out] at d2
      have e0 := fun xa : After wr => akeep (rb.cell (i := 0) rfl) xa
      have e1 := fun xa : After wr => (show xa.w'.cell? ⟨a1, 0, none⟩ = some (.slice (some ⟨b, off, none⟩) l.length cap) by rw [← hpe]; exact akeep (rl.cell (i := 0) rfl) xa)
      have e2 := fun xa : After wr => akeep (rh.cell (i := 0) rfl) xa
      have e4 := fun xa : After wr => akeep (hri.cell (i := 0) rfl) xa
      have e5 := fun xa : After wr => akeep d2 xa
      have hadd : IntKind.i64.wrap ((f : Int) + cn) = (f : Int) + cn := by rw [IntKind.wrap_i64]; omega
      have hlz : (pre.length : Int) < (l.length : Int) := by omega
      have hlz0 : (0 : Int) ≤ (pre.length : Int) := by omega
      have HPE := Lib.hid hpe
      clear fr rb ow rl rh rs hx hm hpe d2 hno hkp hri
      by_cases hle : (f : Int) + cn ≤ h
      · have HLE := Lib.hid hle
        go_wp2
        refine wp_region_after (by kernel_rfl) (by kernel_rfl) ?_
        repeat (go_big_quiet_step (fail))
        refine wpQuiet_nil ?_
        rintro _ ⟨xa, rfl⟩
        obtain ⟨w5, hw5⟩ : ∃ W, W = xa.w' := ⟨_, rfl⟩
        have hf5 : Fresh wr w5 := by rw [hw5]; exact xa.h
        replace e0 := e0 xa
        replace e1 := e1 xa
        replace e2 := e2 xa
        replace e4 := e4 xa
        replace e5 := e5 xa
        rw [← hw5] at e0 e1 e2 e4 e5 ⊢
        clear hw5
        have hgood : goodB f cn = true := goodB_iff.2 ⟨by omega, hc1.1, by omega⟩
        have HGB := Lib.hid hgood
        have hs5 := HS.out.keep hf5
        obtain ⟨fr5, ⟨q5, c5, rb5, ow5⟩, rl5, rh5, rs5⟩ := hs5
        have hq5 : q5 = q ∧ c5 = c := by
          have h1 := rb5.cell (i := 0) rfl
          rw [e0] at h1
          simp only [Option.some.injEq, Value.slice.injEq] at h1
          exact ⟨h1.1.symm, h1.2.2.symm⟩
        obtain ⟨rfl, rfl⟩ := hq5
        obtain ⟨_, _, hpq, hown5, hc5, _⟩ := owns_cap ow5
        cases hpq
        obtain ⟨W6, hW6⟩ : ∃ W, W = w5.alloc (.cells #[.int .i64 (f : Int), .int .i64 cn] 71) := ⟨_, rfl⟩
        have hf6 : Fresh w5 W6 := by rw [hW6]; exact fnew (frefl _) _
        have hr6 : RowAt W6 w5.heap.size 71 [.int .i64 (f : Int), .int .i64 cn] := by rw [hW6]; exact RowAt.new _ _ _
        have HR6 := Lib.hid hr6
        have HW6 := Lib.hid hW6
        have HF6 := Lib.hid (fstep hf5 hf6)
        have HFR : Hid (Calls Tryz.prog 113 #[.slice (some ⟨b, off, none⟩) l.length cap, .slice q5 pre.length c5, .int .i64 (pre.length : Int), .agg #[.int .i64 (f : Int), .int .i64 cn], .func (.func 114) #[] #[.pointer (some ⟨w.heap.size, 0, none⟩)]] W6 fun e w' => e = .returned (.bool (freeAt T cn f)) ∧ Fresh W6 w') := by
          rw [HTT.out]
          exact exFree_any (some ⟨b, off, none⟩) q5 cap c5 l pre f cn w.heap.size W6 (by rw [← HPE.out]; exact (HL.out.keep HS.out.fr).keep HF6.out) HSM.out (hown5.keep hf6).cells hil (by omega) HG.out hgood ((HRI.out.keep HF6.out).cell (i := 0) rfl)
        replace e0 := fun o : Obj => fkeep (fnew (frefl w5) o) e0
        have e1' := fun o : Obj => fkeep (fnew (frefl w5) o) e1
        have e4' := fun o : Obj => fkeep (fnew (frefl w5) o) e4
        clear hf5 fr5 rb5 ow5 rl5 rh5 rs5 hown5 hr6 hW6 hgood e2
        cases hfr : freeAt T cn f
        · rw [hfr] at HFR
          have HNO2 : Hid (∀ g : Nat, g < f + 1 → (g : Int) + cn ≤ h → freeAt T cn g = true → exS (l.map LQ.val) h k (pre ++ [((g : Int), cn)]) = none) := by
            intro g hg h1 h2
            rcases Nat.eq_or_lt_of_le (show g ≤ f by omega) with h' | h'
            · subst h'; rw [hfr] at h2; cases h2
            · exact HNO.out g h' h1 h2
          clear hfr hf6
          go_wp2_with fail
          rw [← HW6.out]
          refine (HFR.out).mono ?_
          rintro e w7 ⟨rfl, hf7⟩
          have HF7 := Lib.hid (fstep HF6.out hf7)
          clear hf7 e0 e1 e1' e4 e4' e5 HFR
          go_wp2
          go_roundw
          case rel => exact ⟨f + 1, by omega, by go_num, HS.out.keep HF7.out, HNO2.out, HKP.out.trans (KpT.fresh HF7.out)⟩
          case measure => simp [intOf]; omega
        · rw [hfr] at HFR
          have HFA := Lib.hid hfr
          clear hfr hf6
          go_wp2_with fail
          rw [← HW6.out]
          refine (HFR.out).mono ?_
          rintro e w7 ⟨rfl, hf7⟩
          have HF7 := Lib.hid (fstep HF6.out hf7)
          have b0 := (HR6.out.keep hf7).cell (i := 0) rfl
          have b1 := (HR6.out.keep hf7).cell (i := 1) rfl
          clear hf7 e0 e1 e1' e4 e4' e5 HFR
          have hs7 := HS.out.keep HF7.out
          obtain ⟨fr7, ⟨q7, c7, rb7, ow7⟩, rl7, rh7, rs7⟩ := hs7
          have t0 := rb7.cell (i := 0) rfl
          have HRB := Lib.hid rb7
          have HRL := Lib.hid rl7
          have HRH := Lib.hid rh7
          have HRS := Lib.hid rs7
          have HFR7 := Lib.hid fr7
          have HRI7 := Lib.hid (HRI.out.keep HF7.out)
          clear rb7 rl7 rh7 rs7
          go_wp2_with (at_builtin; refine wpList_app_b Tryz.underlying29 infoBlk rfl (by decide) (by decide) w0 w7 _ pre.length (pcs pre) [.int .i64 (f : Int), .int .i64 cn] _ rfl (by intro u hu; simp at hu; rcases hu with rfl | rfl <;> rfl) rfl _ _ rfl rfl ow7 rfl rfl (by omega) HFR7.out ?_; intro v' w8 hown8 hf8 hk8; obtain ⟨q8, c8, hv8, _, _, _⟩ := owns_cap hown8; subst hv8; have ra8 := hk8 _ _ _ HRB.out (Or.inl (by decide)); have t8 := ra8.cell (i := 0) rfl; have z8 := ra8.frozen 0; have HA8 := Lib.hid ra8; have HO8 := Lib.hid hown8; have HF8 := Lib.hid hf8; have HK8 := Lib.hid hk8; have u3 := ((hk8 _ _ _ HRS.out (Or.inl (by decide))).setOther n3 (o := 0) (.slice q8 (pre.length + 1) c8)).cell (i := 0) rfl; clear hown8 hf8 hk8 ra8 t0 b0 b1)
          have hpl : (pre ++ [((f : Int), cn)]).length = pre.length + 1 := by simp
          have hpc : pcs (pre ++ [((f : Int), cn)]) = pcs pre ++ [.int .i64 (f : Int), .int .i64 cn] := by rw [pcs_app]; rfl
          have hst9 : ExSt w0 (w8.setCell ⟨a0, 0, none⟩ (.slice q8 (pre.length + 1) c8)) a0 a1 a2 a3 p cap l.length h (pre ++ [((f : Int), cn)]) := by
            have := ExSt.put (pre := pre ++ [((f : Int), cn)]) (q := q8) (c := c8) HF8.out g0 n1 n2 n3 HA8.out (by rw [hpl, hpc]; exact HO8.out) (HK8.out _ _ _ HRL.out (Or.inl (by decide))) (HK8.out _ _ _ HRH.out (Or.inl (by decide))) (HK8.out _ _ _ HRS.out (Or.inl (by decide)))
            rw [hpl] at this
            exact this
          obtain ⟨W9, hW9⟩ : ∃ W, W = w8.setCell ⟨a0, 0, none⟩ (.slice q8 (pre.length + 1) c8) := ⟨_, rfl⟩
          have HKX : Hid (KpT a0 W2 W9) := by
            rw [hW9]
            exact (HKP.out.trans (KpT.fresh HF7.out)).trans (KpT.trans (fun g t cs hr ht _ => HK8.out _ _ _ hr (Or.inl ht)) (KpT.set 0 _))
          rw [← hW9] at hst9 u3
          have HC9 := Lib.hid (HIH.out (pre ++ [((f : Int), cn)]) W9 (by rw [hpl]; have := HK.out; omega) (HG.out.snoc HGB.out) hst9)
          have HI9 := Lib.hid (HKX.out _ _ _ HR2.out (by decide) (by omega))
          have HW9 := Lib.hid hW9
          have HPL := Lib.hid hpl
          clear hpl hpc hst9 hW9 ow7 fr7 t8 z8
          go_wp2_with fail
          rw [← HW9.out]
          refine (HC9.out).mono ?_
          rintro e w10 ⟨rfl, hst10, hkp10⟩
          cases hres : exS (l.map LQ.val) h k (pre ++ [((f : Int), cn)]) with
          | some B =>
            rw [hres] at hst10
            have HST10 := Lib.hid hst10
            have HKP10 := Lib.hid hkp10
            have HRS2 : Hid (R = some B) := by
              show _ = _
              rw [HR.out]
              exact exS_some HCN.out.symm HTT.out.symm HLE.out HFA.out hres fun g hg hfr => HNO.out g hg (by have := HLE.out; omega) hfr
            clear hst10 hkp10 hres HC9 u3
            simp only [Option.isSome_some]
            go_wp2
            go_ret
            rw [HRS2.out]
            exact ⟨rfl, HST10.out, (KpT.fresh HF2.out).trans (HKX.out.trans HKP10.out)⟩
          | none =>
            rw [hres] at hst10
            simp only [Option.getD_none] at hst10
            obtain ⟨fr10, ⟨q10, c10, rb10, ow10⟩, rl10, rh10, rs10⟩ := hst10
            obtain ⟨_, _, hpq, _, hc10, hm10⟩ := owns_cap ow10
            cases hpq
            rw [HPL.out] at rb10 ow10 hc10
            have hcut := owns_cut ow10 (show pre.length ≤ pre.length + 1 by omega)
            rw [pcs_app, List.take_append_of_le_length (by rw [pcs_len]; omega), List.take_of_length_le (by rw [pcs_len]; omega)] at hcut
            have hi10 := hkp10 _ _ _ HI9.out (by decide) (by omega)
            have v0 := rb10.cell (i := 0) rfl
            have v1 := hi10.cell (i := 0) rfl
            have v2 := rb10.frozen 0
            have HPUT := Lib.hid (ExSt.put (pre := pre) fr10 g0 n1 n2 n3 rb10 hcut rl10 rh10 rs10)
            have HKP10 := Lib.hid hkp10
            have HNO2 : Hid (∀ g : Nat, g < f + 1 → (g : Int) + cn ≤ h → freeAt T cn g = true → exS (l.map LQ.val) h k (pre ++ [((g : Int), cn)]) = none) := by
              intro g hg h1 h2
              rcases Nat.eq_or_lt_of_le (show g ≤ f by omega) with h' | h'
              · subst h'; exact hres
              · exact HNO.out g h' h1 h2
            have w1' : pre.length ≤ c10 := by omega
            have w2' : (pre.length : Int) ≤ (c10 : Int) := by omega
            clear fr10 rb10 ow10 rl10 rh10 rs10 hcut hi10 hkp10 hres HC9 u3
            simp only [Option.isSome_none]
            go_wp2
            go_roundw
            case rel => exact ⟨f + 1, by omega, by go_num, HPUT.out, HNO2.out, (HKX.out.trans HKP10.out).trans (KpT.set 0 _)⟩
            case measure => simp [intOf]; omega
      · go_wp2
        refine wp_region_after (by kernel_rfl) (by kernel_rfl) ?_
        repeat (go_big_quiet_step (fail))
        refine wpQuiet_nil ?_
        rintro _ ⟨xa, rfl⟩
        have HRN : Hid (R = none) := by
          show _ = _
          rw [HR.out]
          refine exS_none HCN.out.symm HTT.out.symm fun g hg hfr => ?_
          rcases Nat.lt_or_ge g f with h' | h'
          · exact HNO.out g h' hg hfr
          · exfalso; omega
        clear e0 e1 e2 e4 e5 hadd
        go_wp2
        go_ret
        rw [HRN.out]
        exact ⟨rfl, HS.out.keep xa.h, (KpT.fresh HF2.out).trans (HKP.out.trans (KpT.fresh xa.h))⟩
end Go.Proofs.YtmpdljcihiidaaaGreat
