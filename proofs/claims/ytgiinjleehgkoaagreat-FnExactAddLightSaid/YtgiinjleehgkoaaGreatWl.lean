/- Contracts: a plan with one more light, the program's side. -/
import Derived.Test.YtgiinjleehgkoaaGreatMvP
import Derived.Test.YtgiinjleehgkoaaGreatIns3
import Derived.Test.YtgiinjleehgkoaaGreatKLt
import Derived.Deep.DeepCutAuto
namespace Go.Proofs.YtgiinjleehgkoaaGreat
open Go.RowKit Go.PlainAid

theorem owns_monoL {w : World} {base base' : Nat} {E : TypeId} {size n : Nat} {v : Value} {xs : List Value} (h : w.ownsRow base E size v n xs) (hb : base' ≤ base) : w.ownsRow base' E size v n xs := by
  obtain ⟨h1, h2 | ⟨b, cap, cur, hv, h3, hh, h4⟩⟩ := h
  · exact ⟨h1, Or.inl h2⟩
  · exact ⟨h1, Or.inr ⟨b, cap, cur, hv, by omega, hh, h4⟩⟩
theorem owns_setB {w : World} {base g : Nat} {E : TypeId} {size n : Nat} {v u : Value} {xs : List Value} (h : w.ownsRow base E size v n xs) (hne : ∀ k, v.ownBlock = some k → k ≠ g) (i : Nat) (_ : True := trivial) : (w.setCell ⟨g, i, none⟩ u).ownsRow base E size v n xs := by
  obtain ⟨h1, h2 | ⟨b, cap, cur, hv, hb, hh, h3⟩⟩ := h
  · exact ⟨h1, Or.inl h2⟩
  · refine ⟨h1, Or.inr ⟨b, cap, cur, hv, hb, ?_, h3⟩⟩
    subst hv
    have hr : RowAt w b E cur.toList := by unfold RowAt; exact hh
    have := hr.setOther (o := i) (hne b rfl) u
    unfold RowAt at this; exact this
set_option maxHeartbeats 8000000 in
set_option maxRecDepth 100000 in
theorem withLight_any (v u : Value) (P : PlanV) (X : LtV) (w : World) (h : PlIn w v P) (hx : LgIn w u X) (h24 : P.lights.length ≤ 1024) : Calls Tryz.prog 60 #[v, u] w fun e w' => ∃ v', e = .returned v' ∧ PlOwn w' w.heap.size v' ⟨P.net, insF P.lights X⟩ ∧ Fresh w w' := by
  have HP := Lib.hid h
  obtain ⟨q, c, p, d, r, e0, l, rfl, _, hL, hs, hv, _⟩ := h.parts
  have hn := hs.1
  have hn24 : l.length ≤ 1024 := by rw [hv] at h24; simpa using h24
  clear h24
  obtain ⟨⟨xi, ⟨xs, xq, xcap, xl⟩, xf, xn⟩, rfl, hxI, hxn, rfl⟩ := hx
  simp only at hxI hxn ⊢
  obtain ⟨nn, hnn⟩ : ∃ k, k = P.net.nodes.length := ⟨_, rfl⟩
  obtain ⟨nf, hnf⟩ : ∃ k, k = P.net.fibers.length := ⟨_, rfl⟩
  rw [← hnn, ← hnf] at HP ⊢
  obtain ⟨W3, hW3, hsz3, hf3, r1, r2, r3⟩ := three_rows w [.slice q nn c, .slice p nf d, .slice r l.length e0] [.int .i64 xi, .int .i64 xs, .slice xq xl.length xcap, .int .i64 xf, .int .i64 xn] [.slice none 0 0, .slice none 0 0, .slice none 0 0] 41 69 41
  have HC := Lib.hid (copyPlan_r _ P W3 (HP.out.keep hf3))
  have HF3 := Lib.hid hf3
  have HBX3 := Lib.hid r2
  have HBP3 := Lib.hid r1
  have HL3 := Lib.hid (hL.keep hf3)
  have HRZ3 := Lib.hid r3
  have HW3 := Lib.hid hW3
  have HNN := Lib.hid hnn
  have HNF := Lib.hid hnf
  have HV0 := Lib.hid hv
  have HXI3 := Lib.hid (hxI.keep hf3)
  have hsz := hf3.size
  clear h hs hf3 r1 r2 r3 hW3 hnn hnf hv hxI hL
  go_enter Tryz.func60, Tryz.ntmps60
  go_wp2_with fail
  rw [← HW3.out]
  refine (HC.out).mono ?_
  rintro e w1 ⟨v1, rfl, ho, hb⟩
  obtain ⟨q', c', p', d', r', e', l', rfl, o1, o2, o3, o4, o5, o6, o7, o8, o9, o10, o11⟩ := ho
  rw [← HNN.out] at o7 ⊢
  rw [← HNF.out]
  have hll : l'.length = l.length := by
    have e1 := congrArg List.length o6
    have e2 := congrArg List.length HV0.out
    simp at e1 e2; omega
  have hn' : l'.length ≤ 1024 := by omega
  obtain ⟨W4, hW4⟩ : ∃ W4, W4 = w1.alloc (.cells #[.slice q' nn c', .slice p' nf d', .slice r' l'.length e'] 41) := ⟨_, rfl⟩
  have hf4 : Fresh w1 W4 := by rw [hW4]; exact fnew (frefl _) _
  have hr4 : RowAt W4 w1.heap.size 41 [.slice q' nn c', .slice p' nf d', .slice r' l'.length e'] := by rw [hW4]; exact RowAt.new _ _ _
  have HR4 := Lib.hid hr4
  have HBX4 := Lib.hid ((HBX3.out.keep hb).keep hf4)
  have HRZ4 := Lib.hid ((HRZ3.out.keep hb).keep hf4)
  have HBP4 := Lib.hid ((HBP3.out.keep hb).keep hf4)
  have HL4 := Lib.hid ((HL3.out.keep hb).keep hf4)
  have HOW4 := Lib.hid (owns_monoL (ownsRow_keep o11 hf4) hsz)
  have HXI4 := Lib.hid ((HXI3.out.keep hb).keep hf4)
  have HF4 := Lib.hid (fstep HF3.out (fstep hb hf4))
  have HO1 := Lib.hid ((o1.mono hsz).keep hf4)
  have HO2 := Lib.hid ((o2.mono hsz).keep hf4)
  have HO3 := Lib.hid (o3.keep hf4)
  have HO4 : Hid (∀ x ∈ l', Own W4 w.heap.size 3 x.r.q (x.r.fibs.map iv)) := fun x hx => ((o4 x hx).mono hsz).keep hf4
  have HD := Lib.hid o5
  have HV := Lib.hid o6
  have HO7 := Lib.hid o7
  have HOWN1 := Lib.hid o11
  have HO9 := Lib.hid (And.intro o9 o10)
  have HLL := Lib.hid hll
  have hwz := hb.size
  have hsz4 : W4.heap.size = w1.heap.size + 1 := by rw [hW4]; simp
  have HSZ4 := Lib.hid hsz4
  have HW4 := Lib.hid hW4
  obtain ⟨pos, hpos⟩ : ∃ k, k = posF (l.map LL.val) xi := ⟨_, rfl⟩
  have HPOS := Lib.hid hpos
  have hple : pos ≤ l.length := by have := posF_le (l.map LL.val) xi; rw [← hpos] at this; simpa using this
  clear hb hf4 hW4 hr4 o1 o2 o3 o4 o5 o6 HC o7 o9 o10 o11 hll hsz4 hpos
  go_wp2
  rw [← HW4.out]
  go_loopw [6] (fun i wr => ∃ k : Nat, k ≤ pos ∧ i = .int .i64 k ∧ Fresh W4 wr) (fun i _ => l.length - (intOf i).toNat)
  case atStart => exact ⟨0, Nat.zero_le _, rfl, frefl _⟩
  case round =>
    obtain ⟨k, hk, rfl, hf⟩ := hrel
    have HF := Lib.hid hf
    have hp2 := (HBP4.out.keep hf).cell (i := 2) rfl
    have hz0 := (HBX4.out.keep hf).cell (i := 0) rfl
    by_cases hgo : k < pos
    · have hlt : k < l.length := by omega
      have hltz : (k : Int) < (l.length : Int) := by omega
      obtain ⟨b, off, y, hrr, hy, hm, _, hc0, _, _, _, _⟩ := (HL4.out.keep hf).at hlt
      have hid : y.id < xi := posF_at (l := l.map LL.val) (y := y.val) (by rw [← HPOS.out]; exact hgo) (by rw [List.getElem?_map, hy]; rfl)
      rw [hrr] at hp2
      clear hy hm hrr
      have hp2w := fun xa : After wr => akeep hp2 xa
      have hz0w := fun xa : After wr => akeep hz0 xa
      have hc0w := fun xa : After wr => akeep hc0 xa
      go_wp2
      refine wp_region_after (by kernel_rfl) (by kernel_rfl) ?_
      repeat (go_big_quiet_step (fail))
      refine wpQuiet_nil ?_
      rintro _ ⟨xa, rfl⟩
      have hxa := xa.h
      go_wp2
      go_roundw
      case rel => exact ⟨k + 1, by omega, by go_num, fstep HF.out hxa⟩
      case measure => simp [intOf]; omega
    · obtain rfl : k = pos := by omega
      rcases Nat.lt_or_ge k l.length with hlt | hlt
      focus
        have hltz : (k : Int) < (l.length : Int) := by omega
        obtain ⟨b, off, y, hrr, hy, hm, _, hc0, _, _, _, _⟩ := (HL4.out.keep hf).at hlt
        have hid : ¬ y.id < xi := posF_stop (l := l.map LL.val) (y := y.val) (by rw [← HPOS.out, List.getElem?_map, hy]; rfl)
        rw [hrr] at hp2
        clear hy hm hrr hgo hf
        have hp2w := fun xa : After wr => akeep hp2 xa
        have hz0w := fun xa : After wr => akeep hz0 xa
        have hc0w := fun xa : After wr => akeep hc0 xa
        go_wp2
        refine wp_region_after (by kernel_rfl) (by kernel_rfl) ?_
        repeat (go_big_quiet_step (fail))
        refine wpQuiet_nil ?_
        rintro _ ⟨xa, rfl⟩
        have hxa := xa.h
        go_upto_region 4 with fail
        clear hc0 hid hp2 hz0 hltz hp2w hz0w hc0w
      rotate_left
      focus
        have hltz : ¬ (k : Int) < (l.length : Int) := by omega
        clear hgo hf
        have hp2w := fun xa : After wr => akeep hp2 xa
        have hltd : decide (k < l.length) = false := decide_eq_false (by omega)
        go_wp2
        refine wp_region_after (by kernel_rfl) (by kernel_rfl) ?_
        repeat (go_big_quiet_step (fail))
        refine wpQuiet_nil ?_
        rintro _ ⟨xa, rfl⟩
        have hxa := xa.h
        go_upto_region 4 with fail
        clear hp2 hz0 hltz hp2w hltd hlt
      all_goals (
        obtain ⟨W6, hW6⟩ : ∃ W, W = xa.w' := ⟨_, rfl⟩
        have hf6 : Fresh W4 W6 := by rw [hW6]; exact fstep HF.out hxa
        rw [← hW6]
        clear hxa
        have hx6 := HBX4.out.keep hf6
        have z1 := hx6.cell (i := 1) rfl
        have z2 := hx6.cell (i := 2) rfl
        have HX6 := Lib.hid hx6
        have HCR := Lib.hid (copyRoute_any xs xq xcap xl W6 (HXI4.out.keep hf6) hxn)
        have HF6 := Lib.hid hf6
        have hsz6 := hf6.size
        clear hx6 hf6 hW6
        go_wp2_with fail
        refine (HCR.out).mono ?_
        rintro e W7 ⟨qx, cx, rfl, hox, hb7⟩
        have hx7 := HX6.out.keep hb7
        have hF7 := fstep HF6.out hb7
        have hp7 := HR4.out.keep hF7
        have hz7 := HRZ4.out.keep hF7
        have n1 : w1.heap.size ≠ w.heap.size + 1 := by have := HBX3.out.lt; omega
        have n2 : w.heap.size + 1 + 1 ≠ w.heap.size + 1 := by omega
        obtain ⟨W8, hW8⟩ : ∃ W, W = (W7.setCell ⟨w.heap.size + 1, 1, none⟩ (.int .i64 xs)).setCell ⟨w.heap.size + 1, 2, none⟩ (.slice qx xl.length cx) := ⟨_, rfl⟩
        have hx8 : RowAt W8 (w.heap.size + 1) 69 [.int .i64 xi, .int .i64 xs, .slice qx xl.length cx, .int .i64 xf, .int .i64 xn] := by rw [hW8]; exact (hx7.set 1 _).set 2 _
        have hp8 : RowAt W8 w1.heap.size 41 [.slice q' nn c', .slice p' nf d', .slice r' l'.length e'] := by rw [hW8]; exact (hp7.setOther n1 _).setOther n1 _
        have hz8 : RowAt W8 (w.heap.size + 1 + 1) 41 [.slice none 0 0, .slice none 0 0, .slice none 0 0] := by rw [hW8]; exact (hz7.setOther n2 _).setOther n2 _
        have hF8 : Fresh w W8 := by rw [hW8]; exact fset (fset (fstep HF4.out hF7) (by omega) _) (by omega) _
        have hS8 : ∀ {t : TypeId} {pp : Option Addr} {cs : List Value} {B : Nat}, Own W7 B t pp cs → t ≠ 69 → Own W8 B t pp cs := by
          intro t pp cs B h n
          rw [hW8]
          exact (h.setO hx7 n _ _).setO (hx7.set 1 _) n _ _
        obtain ⟨W9, hW9⟩ : ∃ W, W = W8.alloc (.cells #[.int .i64 xi, .int .i64 xs, .slice qx xl.length cx, .int .i64 xf, .int .i64 xn] 69) := ⟨_, rfl⟩
        have hf9 : Fresh W8 W9 := by rw [hW9]; exact fnew (frefl _) _
        have hv9 : RowAt W9 W8.heap.size 69 (llC ⟨xi, ⟨xs, qx, cx, xl⟩, xf, xn⟩) := by rw [hW9]; exact RowAt.new _ _ _
        have hz87 : W8.heap.size = W7.heap.size := by rw [hW8]; simp
        rw [hz87] at hv9
        have howE : W8.ownsRow w.heap.size 69 5 (.slice r' l'.length e') l'.length (l'.flatMap llC) := by
          have h7 := ownsRow_keep HOW4.out hF7
          have hne : ∀ gg, (Value.slice r' l'.length e').ownBlock = some gg → gg ≠ w.heap.size + 1 := fun gg hg => by
            have h9 := owns_ge HOWN1.out hg
            have h8 := HBX3.out.lt
            omega
          rw [hW8]
          exact owns_setB (owns_setB h7 hne _) hne _
        have HIN := Lib.hid (sliceInsert_any w W9 (fstep hF8 hf9) r' e' l' k ⟨xi, ⟨xs, qx, cx, xl⟩, xf, xn⟩ W7.heap.size (ownsRow_keep howE hf9) hv9 (fun o e => by
          have h9 := owns_lt HOWN1.out (show (Value.slice r' l'.length e').ownBlock = some W7.heap.size by rw [e]; rfl)
          have h10 := hF7.size
          have h12 := HSZ4.out
          omega) hn' (by have := HLL.out; omega))
        have m0 := hx8.cell (i := 0) rfl
        have m1 := hx8.cell (i := 1) rfl
        have m2 := hx8.cell (i := 2) rfl
        have m3 := hx8.cell (i := 3) rfl
        have m4 := hx8.cell (i := 4) rfl
        have m5 := hp8.cell (i := 2) rfl
        have y0 := hx7.cell (i := 0) rfl
        have y1 := hx7.cell (i := 1) rfl
        have y2 := hx7.cell (i := 2) rfl
        have y3 := hx7.cell (i := 3) rfl
        have y4 := hx7.cell (i := 4) rfl
        have yf1 := hx7.frozen 1
        have yf2 := hx7.frozen 2
        have y5 := hp7.cell (i := 2) rfl
        have HP9 := Lib.hid (hp8.keep hf9)
        have HZ9 := Lib.hid (hz8.keep hf9)
        have HX9 := Lib.hid (hx8.keep hf9)
        have HF9 := Lib.hid (fstep hF8 hf9)
        have hF49 := hF7
        have HQ1 := Lib.hid ((hS8 (HO1.out.keep hF7) (by decide)).keep hf9)
        have HQ2 := Lib.hid ((hS8 (HO2.out.keep hF7) (by decide)).keep hf9)
        have HQ4 : Hid (∀ x ∈ l', Own W9 w.heap.size 3 x.r.q (x.r.fibs.map iv)) := fun x hx => (hS8 ((HO4.out x hx).keep hF7) (by decide)).keep hf9
        have HQX := Lib.hid ((hS8 (hox.mono (show w.heap.size ≤ W6.heap.size by have := HSZ4.out; omega)) (by decide)).keep hf9)
        have HXB : Hid (∀ g o, qx = some ⟨g, o, none⟩ → W6.heap.size ≤ g) := fun g o e => (hox.blk g o e).1
        have HYB : Hid (∀ y ∈ l', ∀ g o, y.r.q = some ⟨g, o, none⟩ → g < W6.heap.size) := fun y hy g o e => (((HO4.out y hy).keep HF6.out).blk g o e).2
        have HW9 := Lib.hid (And.intro hW8 hW9)
        clear hx8 hp8 hz8 hF8 hS8 hf9 hv9 howE hx7 hp7 hz7 hF7 hF49 hox hb7 z1 z2 HCR
        go_wp2_with fail
        rw [← HW9.out.1, ← HW9.out.2]
        refine (HIN.out).mono ?_
        rintro e W10 ⟨q9, c9, rfl, how9, hf9, hk9⟩
        have hpa := hk9 _ _ _ HP9.out (by decide)
        have hza := hk9 _ _ _ HZ9.out (by decide)
        have p0 := hpa.cell (i := 0) rfl
        have p1 := hpa.cell (i := 1) rfl
        have p2 := hpa.cell (i := 2) rfl
        have pf := hpa.frozen 2
        have hps := hpa.set 2 (.slice q9 (l'.length + 1) c9)
        have n5 : w.heap.size + 1 + 1 ≠ w1.heap.size := by have := HRZ3.out.lt; omega
        have hzs := hza.setOther (o := 2) n5 (.slice q9 (l'.length + 1) c9)
        have v0 := hzs.cell (i := 0) rfl
        have v1 := hzs.cell (i := 1) rfl
        have v2 := hzs.cell (i := 2) rfl
        have u0 := hzs.frozen 0
        have u1 := hzs.frozen 1
        have u2 := hzs.frozen 2
        have hfin := ((hzs.set 0 (.slice q' nn c')).set 1 (.slice p' nf d')).set 2 (.slice q9 (l'.length + 1) c9)
        have k0 := hfin.cell (i := 0) rfl
        have k1 := hfin.cell (i := 1) rfl
        have k2 := hfin.cell (i := 2) rfl
        have w0' := hza.cell (i := 0) rfl
        have w1' := hza.cell (i := 1) rfl
        have w2' := hza.cell (i := 2) rfl
        have f0' := hza.frozen 0
        have f1' := hza.frozen 1
        have f2' := hza.frozen 2
        have HPA := Lib.hid hpa
        have HZS := Lib.hid hzs
        have HOW9 := Lib.hid how9
        have HF10 := Lib.hid hf9
        have HK9 := Lib.hid hk9
        clear hpa hza hps hzs hfin how9 hf9 hk9 HIN m0 m1 m2 m3 m4 m5 y0 y1 y2 y3 y4 yf1 yf2 y5
        go_wp2
        refine bodyPost_ret (v := .agg #[.slice q' nn c', .slice p' nf d', .slice q9 (l'.length + 1) c9]) (by simp [results, Tryz.results60, go_sem, k0, k1, k2]) rfl ?_
        obtain ⟨q6, c6, hqc, hol, hcl1, hcl2⟩ := owns_cap HOW9.out
        cases hqc
        obtain ⟨L, hL⟩ : ∃ L : List LL, L = l'.take k ++ ⟨xi, ⟨xs, qx, cx, xl⟩, xf, xn⟩ :: l'.drop k := ⟨_, rfl⟩
        have hkl : k ≤ l'.length := by have := HLL.out; omega
        have hll : L.length = l'.length + 1 := by rw [hL]; simp; omega
        have hS : ∀ {t : TypeId} {pp : Option Addr} {cs : List Value}, Own W10 w.heap.size t pp cs → t ≠ 41 → Own ((((W10.setCell ⟨w1.heap.size, 2, none⟩ (.slice q9 (l'.length + 1) c9)).setCell ⟨w.heap.size + 1 + 1, 0, none⟩ (.slice q' nn c')).setCell ⟨w.heap.size + 1 + 1, 1, none⟩ (.slice p' nf d')).setCell ⟨w.heap.size + 1 + 1, 2, none⟩ (.slice q9 (l'.length + 1) c9)) w.heap.size t pp cs := by
          intro t pp cs h n
          exact (((h.setO HPA.out n _ _).setO HZS.out n _ _).setO (HZS.out.set 0 _) n _ _).setO ((HZS.out.set 0 _).set 1 _) n _ _
        have hK : ∀ {t : TypeId} {pp : Option Addr} {cs : List Value}, Own W9 w.heap.size t pp cs → t ≠ 69 → Own W10 w.heap.size t pp cs := by
          intro t pp cs h n
          rcases h with h1 | ⟨b, sp, h1, h2, h3⟩
          · exact Or.inl h1
          · exact Or.inr ⟨b, sp, h1, h2, HK9.out _ _ _ h3 n⟩
        refine ⟨_, rfl, ⟨q', c', p', d', q9, c9, L, by rw [hll, HNN.out, HNF.out], hS (hK HQ1.out (by decide)) (by decide), hS (hK HQ2.out (by decide)) (by decide), hS (by rw [hL]; exact hol) (by decide), fun y hy => ?_, ?_, ?_, by simp only; rw [← HNN.out]; exact HO7.out, o8, by rw [hll]; exact hcl1, hcl2⟩, fset (fset (fset (fset HF10.out (by omega) _) (by omega) _) (by omega) _) (by omega) _⟩
        · rw [hL] at hy
          rcases mem_ins hy with rfl | hy
          · exact hS (hK HQX.out (by decide)) (by decide)
          · exact hS (hK (HQ4.out y hy) (by decide)) (by decide)
        · rw [hL]
          refine HD.out.ins hkl fun y hy g o h' o' e1 e2 => ?_
          have h1 := HXB.out g o e1
          have h2 := HYB.out y hy h' o' e2
          omega
        · simp only
          rw [hL, HV.out]
          unfold insF
          simp only [List.map_append, List.map_cons, List.map_take, List.map_drop]
          have h9 : k = posF (l'.map LL.val) xi := by rw [HPOS.out, ← HV0.out, HV.out]
          rw [← h9])
end Go.Proofs.YtgiinjleehgkoaaGreat
