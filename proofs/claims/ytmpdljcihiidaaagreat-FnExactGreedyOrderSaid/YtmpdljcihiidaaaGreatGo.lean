/- Contracts: the first order whose greedy assignment has a height, the program's side: the search. -/
import Derived.Test.YtmpdljcihiidaaaGreatGoP
import Derived.Test.YtmpdljcihiidaaaGreatAx4
import Derived.Test.YtmpdljcihiidaaaGreatHg
namespace Go.Proofs.YtmpdljcihiidaaaGreat
open Go.RowKit Go.PlainAid

/-- What the search's variables hold. -/
structure GoSt (w0 w : World) (a0 a1 a2 a3 : Nat) (p : Option Addr) (cap n : Nat) (h : Int) (pre : List Int) : Prop where
  fr : Fresh w0 w
  od : ∃ q c, RowAt w a0 58 [.slice q pre.length c] ∧ w.ownsRow w0.heap.size 3 1 (.slice q pre.length c) pre.length (pre.map iv)
  li : RowAt w a1 36 [.slice p n cap]
  he : RowAt w a2 3 [.int .i64 h]
  se : RowAt w a3 126 [.func (.func 82) #[] #[.pointer (some ⟨a0, 0, none⟩), .pointer (some ⟨a1, 0, none⟩), .pointer (some ⟨a2, 0, none⟩), .pointer (some ⟨a3, 0, none⟩)]]
theorem GoSt.keep {w0 w w' : World} {a0 a1 a2 a3 : Nat} {p : Option Addr} {cap n : Nat} {h : Int} {pre : List Int} (st : GoSt w0 w a0 a1 a2 a3 p cap n h pre) (hb : Fresh w w') : GoSt w0 w' a0 a1 a2 a3 p cap n h pre := by
  obtain ⟨fr, ⟨q, c, rb, ow⟩, rl, rh, rs⟩ := st
  exact ⟨fstep fr hb, ⟨q, c, rb.keep hb, ownsRow_keep ow hb⟩, rl.keep hb, rh.keep hb, rs.keep hb⟩
/-- The variable is written again. -/
theorem GoSt.put {w0 w : World} {a0 a1 a2 a3 : Nat} {p : Option Addr} {cap n : Nat} {h : Int} {pre : List Int} {v : Value} {q : Option Addr} {c : Nat} (fr : Fresh w0 w) (g0 : w0.heap.size ≤ a0) (n1 : a1 ≠ a0) (n2 : a2 ≠ a0) (n3 : a3 ≠ a0) (rb : RowAt w a0 58 [v]) (ow : w.ownsRow w0.heap.size 3 1 (.slice q pre.length c) pre.length (pre.map iv))
    (rl : RowAt w a1 36 [.slice p n cap]) (rh : RowAt w a2 3 [.int .i64 h]) (rs : RowAt w a3 126 [.func (.func 82) #[] #[.pointer (some ⟨a0, 0, none⟩), .pointer (some ⟨a1, 0, none⟩), .pointer (some ⟨a2, 0, none⟩), .pointer (some ⟨a3, 0, none⟩)]]) :
    GoSt w0 (w.setCell ⟨a0, 0, none⟩ (.slice q pre.length c)) a0 a1 a2 a3 p cap n h pre :=
  ⟨fset fr g0 _, ⟨q, c, rb.set 0 _, owns_setO ow rb (by decide) 0⟩, rl.setOther n1 _, rh.setOther n2 _, rs.setOther n3 _⟩
theorem infoI1 : (Tryz.prog.info? 3).map (fun i => (i.zero, i.size, i.bytes)) = some (some (.int .i64 0), 1, 8) := by kernel_rfl
set_option maxHeartbeats 8000000 in
set_option maxRecDepth 100000 in
theorem goClo_any (w0 : World) (a0 a1 a2 a3 : Nat) (p : Option Addr) (cap : Nat) (l : List LQ) (h : Int) (hl : Reqs w0 p l) (hs : ReqsSmall l) (hc : CntOne (l.map LQ.val)) (h7 : l.length ≤ 7) (g0 : w0.heap.size ≤ a0) (n1 : a1 ≠ a0) (n2 : a2 ≠ a0) (n3 : a3 ≠ a0) (g2 : a2 < w0.heap.size) :
    ∀ (k : Nat) (pre : List Int) (w : World), pre.length + k = l.length → PreOk l.length pre → GoSt w0 w a0 a1 a2 a3 p cap l.length h pre →
      Calls Tryz.prog 82 #[.pointer (some ⟨a0, 0, none⟩), .pointer (some ⟨a1, 0, none⟩), .pointer (some ⟨a2, 0, none⟩), .pointer (some ⟨a3, 0, none⟩)] w fun e w' => e = .returned (.bool (goS (l.map LQ.val) h k pre).isSome) ∧ GoSt w0 w' a0 a1 a2 a3 p cap l.length h ((goS (l.map LQ.val) h k pre).getD pre) := by
  have hmf : ∀ (fn : Fn) (first cap : Array Value) (w : World), (Instr.makeFunc fn first cap).run Tryz.prog w = .ok (.func fn first cap) w := fun _ _ _ _ => rfl
  have HL := Lib.hid hl
  have HSM := Lib.hid hs
  have HC := Lib.hid hc
  have HML : Hid ((l.map LQ.val).length = l.length) := by show _ = _; simp
  clear hl hs hc
  intro k
  induction k with
  | zero =>
    intro pre w hk hg st
    have HST := Lib.hid st
    obtain ⟨fr, ⟨q, c, rb, ow⟩, rl, rh, rs⟩ := st
    obtain ⟨_, _, hpq, hown, _, _⟩ := owns_cap ow
    cases hpq
    have y0 := rb.cell (i := 0) rfl
    have y1 := rl.cell (i := 0) rfl
    have hz : ((pre.length : Int) == (l.length : Int)) = true := by simp; omega
    have HGR := Lib.hid (greedy_any p q cap c l pre w (HL.out.keep fr) HSM.out HC.out h7 hown.ints (by omega) hg.1 hg.2)
    have HGO := Lib.hid (fun (k : Nat) (B : List (Int × Int)) (e : gTo (l.map LQ.val) pre k = some B) (hk : k ≤ pre.length) => gTo_good HC.out e (by rw [HML.out]; exact hg.1) hk)
    obtain ⟨R, hR⟩ : ∃ R, R = goS (l.map LQ.val) h 0 pre := ⟨_, rfl⟩
    have HR := Lib.hid hR
    rw [← hR]
    clear fr rb ow rl rh rs hk hown hg hR
    cases hgt : gTo (l.map LQ.val) pre pre.length with
    | none =>
      have HRN : Hid (R = none) := by show _ = _; rw [HR.out]; unfold goS; rw [grB_none hgt]; rfl
      rw [hgt] at HGR
      clear hgt
      go_enter Tryz.func82, Tryz.ntmps82
      go_wp2_with fail
      refine (HGR.out).mono ?_
      rintro e w2 ⟨pg, cg, rfl, _, hf⟩
      have HF := Lib.hid hf
      clear hf y0 y1
      simp only [Option.isSome_none]
      go_wp2
      refine wp_region_after (by kernel_rfl) (by kernel_rfl) ?_
      repeat (go_big_quiet_step (fail))
      refine wpQuiet_nil ?_
      rintro _ ⟨xa, rfl⟩
      go_wp2
      go_ret
      rw [HRN.out]
      exact ⟨rfl, HST.out.keep (fstep HF.out xa.h)⟩
    | some B =>
      have HRS : Hid (R = if decide (heightTo B = h) = true then some pre else none) := by show _ = _; rw [HR.out]; unfold goS; rw [grB_some hgt]
      obtain ⟨hbs, hbl⟩ := HGO.out _ _ hgt (Nat.le_refl _)
      rw [hgt] at HGR
      have HBS := Lib.hid hbs
      rw [HML.out] at hbl
      have hbl7 : B.length ≤ 7 := by omega
      clear hgt hbs hbl
      go_enter Tryz.func82, Tryz.ntmps82
      go_wp2_with fail
      refine (HGR.out).mono ?_
      rintro e w2 ⟨pg, cg, rfl, ho, hf⟩
      simp only [Option.getD_some, Option.isSome_some] at ho ⊢
      have HO := Lib.hid ho
      have HF := Lib.hid hf
      have e0 := fun xa : After w2 => akeep ((HST.out.keep hf).he.cell (i := 0) rfl) xa
      have HHT : Hid (∀ xa : After w2, Calls Tryz.prog 84 #[.slice pg B.length cg] xa.w' fun e w' => e = .returned (.int .i64 (heightTo B)) ∧ Fresh xa.w' w') := fun xa => heightOf_w pg cg B xa.w' (HO.out.keep xa.h).cells HBS.out (by omega)
      clear hf ho y0 y1
      by_cases hh : heightTo B = h
      · have hhb : (heightTo B == h) = true := by simp [hh]
        have HRT : Hid (R = some pre) := by show _ = _; rw [HRS.out]; simp [hh]
        clear hh
        go_wp2
        refine wp_region_after (by kernel_rfl) (by kernel_rfl) ?_
        repeat (go_big_quiet_step ((go_at_call 84; exact after_call (HHT.out _))))
        refine wpQuiet_nil ?_
        rintro _ ⟨xa, rfl⟩
        go_wp2
        go_ret
        rw [HRT.out]
        exact ⟨rfl, HST.out.keep (fstep HF.out xa.h)⟩
      · have hhb : (heightTo B == h) = false := by simp [hh]
        have HRT : Hid (R = none) := by show _ = _; rw [HRS.out]; simp [hh]
        clear hh
        go_wp2
        refine wp_region_after (by kernel_rfl) (by kernel_rfl) ?_
        repeat (go_big_quiet_step ((go_at_call 84; exact after_call (HHT.out _))))
        refine wpQuiet_nil ?_
        rintro _ ⟨xa, rfl⟩
        go_wp2
        go_ret
        rw [HRT.out]
        exact ⟨rfl, HST.out.keep (fstep HF.out xa.h)⟩
  | succ k ih =>
    intro pre w hk hg st
    have HST := Lib.hid st
    obtain ⟨fr, ⟨q, c, rb, ow⟩, rl, rh, rs⟩ := st
    have y0 := rb.cell (i := 0) rfl
    have y1 := rl.cell (i := 0) rfl
    have hz : ((pre.length : Int) == (l.length : Int)) = false := by rw [beq_eq_false_iff_ne]; omega
    have hil : pre.length < l.length := by omega
    have hn7 : pre.length ≤ 7 := by omega
    have HIH := Lib.hid ih
    have HG := Lib.hid hg
    obtain ⟨R, hR⟩ : ∃ R, R = goS (l.map LQ.val) h (k + 1) pre := ⟨_, rfl⟩
    have HR := Lib.hid hR
    have HK := Lib.hid hk
    rw [← hR]
    clear fr rb ow rl rh rs hk ih hR hg
    go_enter Tryz.func82, Tryz.ntmps82
    go_wp2
    clear y0 y1
    go_loopw [28] (fun i wr => ∃ f : Nat, f ≤ l.length ∧ i = .int .i64 f ∧ GoSt w0 wr a0 a1 a2 a3 p cap l.length h pre ∧ (∀ g : Nat, g < f → (g : Int) ∉ pre → goS (l.map LQ.val) h k (pre ++ [(g : Int)]) = none)) (fun i _ => l.length - (intOf i).toNat)
    case atStart => exact ⟨0, by omega, rfl, HST.out, fun g hg => by omega⟩
    case round =>
      obtain ⟨f, hfl, rfl, st, hno⟩ := hrel
      have HS := Lib.hid st
      have HNO := Lib.hid hno
      obtain ⟨fr, ⟨q, c, rb, ow⟩, rl, rh, rs⟩ := st
      obtain ⟨_, _, hpq, hown, hpc, hcm⟩ := owns_cap ow
      cases hpq
      have y0 := rb.cell (i := 0) rfl
      have z0 := rb.frozen 0
      have HFR := Lib.hid fr
      have HRB := Lib.hid rb
      have HRL := Lib.hid rl
      have HRH := Lib.hid rh
      have HRS := Lib.hid rs
      have HOW := Lib.hid ow
      have HCI := Lib.hid (containsI_any q c pre (f : Int) wr hown.ints (by omega))
      clear fr rb rl rh rs hown hno
      by_cases hlt : f < l.length
      · have hltz : (f : Int) < (l.length : Int) := by omega
        cases hm : decide ((f : Int) ∈ pre)
        · rw [hm] at HCI
          have HM : Hid ((f : Int) ∉ pre) := Lib.hid (of_decide_eq_false hm)
          clear hm
          go_wp2_with (first | (go_at_call 85; refine (HCI.out).mono ?_; rintro e w2 ⟨rfl, rfl⟩) | (at_builtin; refine wpList_app_b Tryz.underlying58 infoI1 rfl (by decide) (by decide) w0 wr _ pre.length (pre.map iv) [.int .i64 (f : Int)] _ rfl (by intro u hu; simp at hu; rcases hu with rfl; rfl) rfl _ _ rfl rfl HOW.out rfl rfl (by omega) HFR.out ?_; intro v' w8 hown8 hf8 hk8; obtain ⟨q8, c8, hv8, _, _, _⟩ := owns_cap hown8; subst hv8; have ra8 := hk8 _ _ _ HRB.out (Or.inl (by decide)); have t8 := ra8.cell (i := 0) rfl; have z8 := ra8.frozen 0; have HA8 := Lib.hid ra8; have HO8 := Lib.hid hown8; have HF8 := Lib.hid hf8; have HK8 := Lib.hid hk8; have u3 := ((hk8 _ _ _ HRS.out (Or.inl (by decide))).setOther n3 (o := 0) (.slice q8 (pre.length + 1) c8)).cell (i := 0) rfl; clear hown8 hf8 hk8 ra8 y0 z0))
          have hpl : (pre ++ [(f : Int)]).length = pre.length + 1 := by simp
          have hpc : (pre ++ [(f : Int)]).map iv = pre.map iv ++ [.int .i64 (f : Int)] := by simp
          have hst9 : GoSt w0 (w8.setCell ⟨a0, 0, none⟩ (.slice q8 (pre.length + 1) c8)) a0 a1 a2 a3 p cap l.length h (pre ++ [(f : Int)]) := by
            have := GoSt.put (pre := pre ++ [(f : Int)]) (q := q8) (c := c8) HF8.out g0 n1 n2 n3 HA8.out (by rw [hpl, hpc]; exact HO8.out) (HK8.out _ _ _ HRL.out (Or.inl (by decide))) (HK8.out _ _ _ HRH.out (Or.inr fun e => by have := own_block HOW.out _ e; omega)) (HK8.out _ _ _ HRS.out (Or.inl (by decide)))
            rw [hpl] at this
            exact this
          obtain ⟨W9, hW9⟩ : ∃ W, W = w8.setCell ⟨a0, 0, none⟩ (.slice q8 (pre.length + 1) c8) := ⟨_, rfl⟩
          rw [← hW9] at hst9 u3
          have HC9 := Lib.hid (HIH.out (pre ++ [(f : Int)]) W9 (by rw [hpl]; have := HK.out; omega) (HG.out.snoc hlt HM.out) hst9)
          have HW9 := Lib.hid hW9
          have HPL := Lib.hid hpl
          clear hpl hpc hst9 hW9 ow t8 z8
          go_wp2_with fail
          rw [← HW9.out]
          refine (HC9.out).mono ?_
          rintro e w10 ⟨rfl, hst10⟩
          cases hres : goS (l.map LQ.val) h k (pre ++ [(f : Int)]) with
          | some B =>
            rw [hres] at hst10
            have HST10 := Lib.hid hst10
            have HRS2 : Hid (R = some B) := by
              show _ = _
              rw [HR.out]
              exact goS_some (by rw [HML.out]; exact hlt) (fun g hg hm => HNO.out g hg hm) HM.out hres
            clear hst10 hres HC9 u3
            simp only [Option.isSome_some]
            go_wp2
            go_ret
            rw [HRS2.out]
            exact ⟨rfl, HST10.out⟩
          | none =>
            rw [hres] at hst10
            simp only [Option.getD_none] at hst10
            obtain ⟨fr10, ⟨q10, c10, rb10, ow10⟩, rl10, rh10, rs10⟩ := hst10
            obtain ⟨_, _, hpq, _, hc10, hm10⟩ := owns_cap ow10
            cases hpq
            rw [HPL.out] at rb10 ow10 hc10
            have hcut := owns_cut ow10 (show pre.length ≤ pre.length + 1 by omega)
            rw [List.map_append, Nat.mul_one, List.take_append_of_le_length (by simp), List.take_of_length_le (by simp)] at hcut
            have v0 := rb10.cell (i := 0) rfl
            have v2 := rb10.frozen 0
            have HPUT := Lib.hid (GoSt.put (pre := pre) fr10 g0 n1 n2 n3 rb10 hcut rl10 rh10 rs10)
            have HNO2 : Hid (∀ g : Nat, g < f + 1 → (g : Int) ∉ pre → goS (l.map LQ.val) h k (pre ++ [(g : Int)]) = none) := by
              intro g hg h1
              rcases Nat.eq_or_lt_of_le (show g ≤ f by omega) with h' | h'
              · subst h'; exact hres
              · exact HNO.out g h' h1
            have w1' : pre.length ≤ c10 := by omega
            have w2' : (pre.length : Int) ≤ (c10 : Int) := by omega
            have w3' : IntKind.i64.wrap ((pre.length : Int) + 1 - 1) = (pre.length : Int) := by rw [IntKind.wrap_i64]; omega
            have w4' : IntKind.i64.wrap (pre.length : Int) = (pre.length : Int) := by rw [IntKind.wrap_i64]; omega
            clear fr10 rb10 ow10 rl10 rh10 rs10 hcut hres HC9 u3
            simp only [Option.isSome_none]
            go_wp2
            go_roundw
            case rel => exact ⟨f + 1, by omega, by go_num, HPUT.out, HNO2.out⟩
            case measure => simp [intOf]; omega
        · rw [hm] at HCI
          have HM : Hid ((f : Int) ∈ pre) := Lib.hid (of_decide_eq_true hm)
          clear hm
          have HNO2 : Hid (∀ g : Nat, g < f + 1 → (g : Int) ∉ pre → goS (l.map LQ.val) h k (pre ++ [(g : Int)]) = none) := by
            intro g hg h1
            rcases Nat.eq_or_lt_of_le (show g ≤ f by omega) with h' | h'
            · subst h'; exact absurd HM.out h1
            · exact HNO.out g h' h1
          clear ow
          go_wp2_with (go_at_call 85; refine (HCI.out).mono ?_; rintro e w2 ⟨rfl, rfl⟩)
          go_roundw
          case rel => exact ⟨f + 1, by omega, by go_num, HS.out, HNO2.out⟩
          case measure => simp [intOf]; omega
      · have hltz : ¬ (f : Int) < (l.length : Int) := by omega
        have HRN : Hid (R = none) := by
          show _ = _
          rw [HR.out]
          exact goS_none fun g hg hm => HNO.out g (by rw [HML.out] at hg; omega) hm
        clear ow y0 z0
        go_wp2
        go_ret
        rw [HRN.out]
        exact ⟨rfl, HS.out⟩
end Go.Proofs.YtmpdljcihiidaaaGreat
