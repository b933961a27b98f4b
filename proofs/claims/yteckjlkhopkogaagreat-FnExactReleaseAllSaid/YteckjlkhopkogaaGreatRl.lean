/- Contracts: ReleaseAll, both sides. -/
import Derived.Test.YteckjlkhopkogaaGreatDf
import Derived.Test.YteckjlkhopkogaaGreatRml
import Derived.Test.YteckjlkhopkogaaGreatPc5
import Derived.Test.YteckjlkhopkogaaGreatAl
import Derived.Test.YteckjlkhopkogaaGreatIns2
namespace Go.Proofs.YteckjlkhopkogaaGreat
open Go.RowKit Go.PlainAid

/-- A plan, numbers of lights and a count. -/
abbrev SdV := PlanV × List Int × Int
def SdIn (w : World) (v : Value) (S : SdV) : Prop := ∃ q m c p k d r i e t y, v = .agg #[.slice q m c, .slice p k d, .slice r i e, .slice t S.2.1.length y, .int .i64 S.2.2] ∧ PlIn w (.agg #[.slice q m c, .slice p k d, .slice r i e]) S.1 ∧ Ints w t S.2.1 ∧ S.2.1.length ≤ 1048576
theorem SdIn.keep {w w' : World} {v : Value} {S : SdV} (h : SdIn w v S) (hb : Fresh w w') : SdIn w' v S := by
  obtain ⟨q, m, c, p, k, d, r, i, e, t, y, h1, h2, h3, h4⟩ := h
  exact ⟨q, m, c, p, k, d, r, i, e, t, y, h1, h2.keep hb, h3.keep hb, h4⟩
def relBad (P : PlanV) (x : Int) : Bool := !(x == 0) && decide (findL P.lights x < 0)
theorem rel_any (P : PlanV) (ids : List Int) : relB P ids = (planB P && !(ids.any (relBad P))) := by
  unfold relB
  congr 1
  rw [List.not_any_eq_all_not]
  congr 1
  funext x
  unfold relBad
  by_cases h : x = 0
  · simp [h]
  · have h2 : (x == 0) = false := by simpa using h
    rw [h2]
    by_cases h3 : 0 ≤ findL P.lights x
    · have h4 : ¬ findL P.lights x < 0 := by omega
      simp [h3, h4]
    · have h4 : findL P.lights x < 0 := by omega
      simp [h3, h4]
theorem enters_r1 (args : Array Value) (w : World) : (callFunc 51 args).run Tryz.prog w = .ok (.enter 51 args) w := enters_of Tryz.func51 (by kernel_rfl) rfl args w
theorem enters_r2 (args : Array Value) (w : World) : (callFunc 55 args).run Tryz.prog w = .ok (.enter 55 args) w := enters_of Tryz.func55 (by kernel_rfl) rfl args w
set_option maxHeartbeats 1000000 in
set_option maxRecDepth 20000 in
theorem r1_any (P : PlanV) (q p r t : Option Addr) (m c k d i e n y : Nat) (b x : Int) (g : Nat) (w : World) (h : PlIn w (.agg #[.slice q m c, .slice p k d, .slice r i e]) P) (hr : RowAt w g 42 [.slice q m c, .slice p k d, .slice r i e, .slice t n y, .int .i64 b]) :
    Calls Tryz.prog 51 #[.int .i64 x, .pointer (some ⟨g, 0, none⟩)] w fun e w' => e = .returned (.bool (relBad P x)) ∧ Fresh w w' := by
  have a0 := hr.cell (i := 0) rfl
  have a1 := hr.cell (i := 1) rfl
  have a2 := hr.cell (i := 2) rfl
  have HC := Lib.hid (lightAt_any _ P x w h)
  have HD : Hid (relBad P x = (!(x == 0) && decide (findL P.lights x < 0))) := rfl
  obtain ⟨f, hf⟩ : ∃ f, f = findL P.lights x := ⟨_, rfl⟩
  rw [← hf] at HC HD
  clear h hr hf
  by_cases hx : x = 0
  · have hx1 : (x != 0) = false := by simp [hx]
    have HV : Hid (relBad P x = false) := by show _ = _; rw [HD.out]; simp [hx]
    clear hx
    go_enter Tryz.func51, Tryz.ntmps51
    go_wp2
    go_ret
    exact ⟨by rw [HV.out]; first | done | rfl, frefl _⟩
  · have hx1 : (x != 0) = true := by simp [hx]
    have HV : Hid (relBad P x = decide (f < 0)) := by show _ = _; rw [HD.out]; simp [hx]
    clear hx
    go_enter Tryz.func51, Tryz.ntmps51
    go_wp2_with fail
    refine (HC.out).mono ?_
    rintro e w1 ⟨rfl, hb⟩
    have HB := Lib.hid hb
    clear hb HC
    go_wp2
    go_ret
    exact ⟨by rw [HV.out]; first | done | rfl, HB.out⟩
set_option maxHeartbeats 1000000 in
set_option maxRecDepth 20000 in
theorem r2_any (ids : List Int) (q p r t : Option Addr) (m c k d i e y : Nat) (b : Int) (g : Nat) (x : LL) (w : World) (ht : Ints w t ids) (hn : ids.length ≤ 1048576) (hr : RowAt w g 42 [.slice q m c, .slice p k d, .slice r i e, .slice t ids.length y, .int .i64 b]) :
    Calls Tryz.prog 55 #[llV x, .pointer (some ⟨g, 0, none⟩)] w fun e w' => e = .returned (.bool (ids.contains x.id)) ∧ Fresh w w' := by
  obtain ⟨W2, hW2⟩ : ∃ W, W = w.alloc (.cells #[.int .i64 x.id, .int .i64 x.r.start, .slice x.r.q x.r.fibs.length x.r.cap, .int .i64 x.f, .int .i64 x.c] 94) := ⟨_, rfl⟩
  have hf2 : Fresh w W2 := by rw [hW2]; exact fnew (frefl _) _
  have hr2 := hr.keep hf2
  have a3 := hr2.cell (i := 3) rfl
  have a3' := hr.cell (i := 3) rfl
  have a3'' := fun o : Obj => fkeep (fnew (frefl w) o) a3'
  have hrx : RowAt W2 w.heap.size 94 [.int .i64 x.id, .int .i64 x.r.start, .slice x.r.q x.r.fibs.length x.r.cap, .int .i64 x.f, .int .i64 x.c] := by rw [hW2]; exact RowAt.new _ _ _
  have b0 := hrx.cell (i := 0) rfl
  have HC := Lib.hid (containsI_any t y ids x.id W2 (ht.keep hf2) (by omega))
  have HE : Hid (ids.contains x.id = decide (x.id ∈ ids)) := by show _ = _; simp
  have HF2 := Lib.hid hf2
  have HW2 := Lib.hid hW2
  clear hr hr2 hrx hf2 hW2 ht
  go_enter Tryz.func55, Tryz.ntmps55
  go_wp2_with fail
  rw [← HW2.out]
  refine (HC.out).mono ?_
  rintro e w1 ⟨rfl, rfl⟩
  go_wp2
  go_ret
  exact ⟨by rw [HE.out]; first | done | rfl, HF2.out⟩
set_option maxHeartbeats 1000000 in
set_option maxRecDepth 20000 in
theorem deleteFunc_nil (cl : FuncId) (cp : Array Value) (p : Option Addr) (cap : Nat) (w : World) (eg : ∀ args w, (callFunc cl args).run Tryz.prog w = .ok (.enter cl args) w) :
    Calls Tryz.prog 54 #[.slice p 0 cap, .func (.func cl) #[] cp] w fun e w' => e = .returned (.slice p 0 cap) ∧ Fresh w w' := by
  have HI := Lib.hid (ltIndex_any cl p cap [] (fun _ => false) cp w ⟨Or.inl rfl, fun x hx => by cases hx⟩ (by simp) eg (fun x hx => by cases hx))
  go_enter Tryz.func54, Tryz.ntmps54
  go_wp2_with fail
  refine (HI.out).mono ?_
  rintro e w1 ⟨rfl, hb⟩
  have HB := Lib.hid hb
  clear hb HI
  have e0 : idxP ([] : List LL) (fun _ => false) = -1 := rfl
  rw [e0]
  go_wp2
  go_ret
  exact ⟨rfl, HB.out⟩
theorem Own.srt {w w' : World} {base g : Nat} {t : TypeId} {p : Option Addr} {cs ds : List Value} (h : Own w base t p cs) (hr : RowAt w g 94 ds) (hs : Srt g w w') (ht : t ≠ 94) : Own w' base t p cs := by
  rcases h with h | ⟨b, sp, h1, h2, h3⟩
  · exact Or.inl h
  · exact Or.inr ⟨b, sp, h1, h2, hs.1 _ _ _ h3 fun e => by subst e; exact ht (h3.inj hr).1⟩
theorem DistL.filter {l : List LL} (h : DistL l) (p : LL → Bool) : DistL (l.filter p) := by
  have pw : ∀ l : List LL, DistL l ↔ l.Pairwise fun x y => ∀ g o h o', x.r.q = some ⟨g, o, none⟩ → y.r.q = some ⟨h, o', none⟩ → g ≠ h := by
    intro l
    rw [List.pairwise_iff_getElem]
    constructor
    · intro h i j hi hj hij
      exact h i j l[i] l[j] (by omega) (List.getElem?_eq_getElem hi) (List.getElem?_eq_getElem hj)
    · intro h i j x y hij hx hy g o g' o' e1 e2
      obtain ⟨hi, rfl⟩ := List.getElem?_eq_some_iff.1 hx
      obtain ⟨hj, rfl⟩ := List.getElem?_eq_some_iff.1 hy
      rcases Nat.lt_or_gt_of_ne hij with h1 | h1
      · exact h i j hi hj h1 g o g' o' e1 e2
      · exact (h j i hj hi h1 g' o' g o e2 e1).symm
  exact (pw _).2 (((pw _).1 h).sublist List.filter_sublist)
theorem keep_vals (l : List LL) (ids : List Int) : (l.filter fun x => !ids.contains x.id).map LL.val = keepL (l.map LL.val) ids := by
  unfold keepL
  rw [List.filter_map]
  rfl
set_option maxHeartbeats 8000000 in
set_option maxRecDepth 100000 in
theorem implReleaseAll_any (v : Value) (S : SdV) (w : World) (h : SdIn w v S) : Calls Tryz.prog 12 #[v] w fun e w' => ∃ v', e = .returned (.tuple #[v', .bool (relF S.1 S.2.1).2]) ∧ PlOwn w' w.heap.size v' (relF S.1 S.2.1).1 ∧ Fresh w w' := by
  obtain ⟨P, ids, bk⟩ := S
  obtain ⟨q, m, c, p, k, d, r, i, e0, t, y, rfl, hP, ht, hn⟩ := h
  simp only at hP ht hn ⊢
  obtain ⟨W2, hW2, hsz2, hf2, r1, r2⟩ := two_rows w [.slice q m c, .slice p k d, .slice r i e0, .slice t ids.length y, .int .i64 bk] [.slice none 0 0, .slice none 0 0, .slice none 0 0] 42 38
  have hmf : ∀ (fn : Fn) (first cap : Array Value) (w : World), (Instr.makeFunc fn first cap).run Tryz.prog w = .ok (.func fn first cap) w := fun _ _ _ _ => rfl
  have HP := Lib.hid hP
  have HT := Lib.hid ht
  have HC := Lib.hid (implIsValidPlan_any _ P W2 (hP.keep hf2))
  have HF2 := Lib.hid hf2
  have HR1 := Lib.hid r1
  have HR2 := Lib.hid r2
  have HW2 := Lib.hid hW2
  have hsz := hf2.size
  have HCT : Hid (∀ W, Fresh W2 W → Calls Tryz.prog 50 #[.slice t ids.length y, .func (.func 51) #[] #[.pointer (some ⟨w.heap.size, 0, none⟩)]] W fun e w' => e = .returned (.bool (ids.any (relBad P))) ∧ Fresh W w') := fun W hW =>
    intContains_any 51 t y ids (relBad P) _ W ((HT.out.keep HF2.out).keep hW) hn enters_r1 fun x _ w' hw => r1_any P q p r t m c k d i e0 ids.length y bk x w.heap.size w' (HP.out.keep (fstep HF2.out (fstep hW hw))) (HR1.out.keep (fstep hW hw))
  have HREL := Lib.hid (rel_any P ids)
  have HEND : Hid (∀ W, Fresh W2 W → relB P ids = false → ∀ e, e = Ending.returned (.tuple #[.agg #[.slice none 0 0, .slice none 0 0, .slice none 0 0], .bool false]) → ∃ v', e = .returned (.tuple #[v', .bool (relF P ids).2]) ∧ PlOwn (((W.setCell ⟨w.heap.size + 1, 0, none⟩ (.slice none 0 0)).setCell ⟨w.heap.size + 1, 1, none⟩ (.slice none 0 0)).setCell ⟨w.heap.size + 1, 2, none⟩ (.slice none 0 0)) w.heap.size v' (relF P ids).1 ∧ Fresh w (((W.setCell ⟨w.heap.size + 1, 0, none⟩ (.slice none 0 0)).setCell ⟨w.heap.size + 1, 1, none⟩ (.slice none 0 0)).setCell ⟨w.heap.size + 1, 2, none⟩ (.slice none 0 0))) := fun W hW hno e he => by
    rw [relF_no hno]
    exact ⟨_, he, zeroP_own _ _, fset (fset (fset (fstep HF2.out hW) (by omega) _) (by omega) _) (by omega) _⟩
  clear hP ht hf2 r1 r2 hW2
  cases hpl : planB P
  · rw [hpl] at HC HREL
    have HNO : Hid (relB P ids = false) := by show _ = _; rw [HREL.out]; rfl
    go_enter Tryz.func12, Tryz.ntmps12
    go_wp2_with fail
    rw [← HW2.out]
    refine (HC.out).mono ?_
    rintro e w1 ⟨rfl, hb⟩
    have hz := HR2.out.keep hb
    have x0 := hz.cell (i := 0) rfl
    have x1 := hz.cell (i := 1) rfl
    have x2 := hz.cell (i := 2) rfl
    have u0 := hz.frozen 0
    have u1 := hz.frozen 1
    have u2 := hz.frozen 2
    have hfin := ((hz.set 0 (.slice none 0 0)).set 1 (.slice none 0 0)).set 2 (.slice none 0 0)
    have k0 := hfin.cell (i := 0) rfl
    have k1 := hfin.cell (i := 1) rfl
    have k2 := hfin.cell (i := 2) rfl
    have HB := Lib.hid hb
    clear hz hfin hb HC
    go_wp2
    refine bodyPost_ret (v := .tuple #[.agg #[.slice none 0 0, .slice none 0 0, .slice none 0 0], .bool false]) (by simp [results, Tryz.results12, go_sem, k0, k1, k2]) rfl ?_
    exact HEND.out _ HB.out HNO.out _ rfl
  · rw [hpl] at HC HREL
    cases hany : ids.any (relBad P)
    rotate_left
    · rw [hany] at HREL
      have HANY := Lib.hid hany
      have HNO : Hid (relB P ids = false) := by show _ = _; rw [HREL.out]; rfl
      clear hany hpl
      go_enter Tryz.func12, Tryz.ntmps12
      go_wp2_with fail
      rw [← HW2.out]
      refine (HC.out).mono ?_
      rintro e w1 ⟨rfl, hb⟩
      have a3 := (HR1.out.keep hb).cell (i := 3) rfl
      have HCT1 := Lib.hid (HCT.out w1 hb)
      rw [HANY.out] at HCT1
      have HB := Lib.hid hb
      clear hb HC HCT
      go_wp2_with fail
      refine (HCT1.out).mono ?_
      rintro e w2 ⟨rfl, hb⟩
      have hz := (HR2.out.keep HB.out).keep hb
      have x0 := hz.cell (i := 0) rfl
      have x1 := hz.cell (i := 1) rfl
      have x2 := hz.cell (i := 2) rfl
      have u0 := hz.frozen 0
      have u1 := hz.frozen 1
      have u2 := hz.frozen 2
      have hfin := ((hz.set 0 (.slice none 0 0)).set 1 (.slice none 0 0)).set 2 (.slice none 0 0)
      have k0 := hfin.cell (i := 0) rfl
      have k1 := hfin.cell (i := 1) rfl
      have k2 := hfin.cell (i := 2) rfl
      have HB2 := Lib.hid (fstep HB.out hb)
      clear hz hfin hb HCT1 a3
      go_wp2
      refine bodyPost_ret (v := .tuple #[.agg #[.slice none 0 0, .slice none 0 0, .slice none 0 0], .bool false]) (by simp [results, Tryz.results12, go_sem, k0, k1, k2]) rfl ?_
      exact HEND.out _ HB2.out HNO.out _ rfl
    · rw [hany] at HREL
      have HANY := Lib.hid hany
      have HYES : Hid (relF P ids = (⟨P.net, keepL P.lights ids⟩, true)) := relF_yes (by rw [HREL.out]; rfl)
      clear hany hpl HEND
      go_enter Tryz.func12, Tryz.ntmps12
      go_wp2_with fail
      rw [← HW2.out]
      refine (HC.out).mono ?_
      rintro e w1 ⟨rfl, hb⟩
      have a3 := (HR1.out.keep hb).cell (i := 3) rfl
      have HCT1 := Lib.hid (HCT.out w1 hb)
      rw [HANY.out] at HCT1
      have HB := Lib.hid hb
      clear hb HC HCT
      go_wp2_with fail
      refine (HCT1.out).mono ?_
      rintro e w2 ⟨rfl, hb⟩
      have HB2 := Lib.hid (fstep HB.out hb)
      have a0 := (HR1.out.keep HB2.out).cell (i := 0) rfl
      have a1 := (HR1.out.keep HB2.out).cell (i := 1) rfl
      have a2 := (HR1.out.keep HB2.out).cell (i := 2) rfl
      have HCP := Lib.hid (copyPlan_r _ P w2 (HP.out.keep (fstep HF2.out HB2.out)))
      clear hb HCT1 a3
      go_wp2_with fail
      refine (HCP.out).mono ?_
      rintro e w3 ⟨v1, rfl, ho, hb⟩
      obtain ⟨q', c', p', d', r', e', l', rfl, o1, o2, o3, o4, o5, o6, o7, o8, o9, o10, o11⟩ := ho
      obtain ⟨W4, hW4⟩ : ∃ W4, W4 = w3.alloc (.cells #[.slice q' P.net.nodes.length c', .slice p' P.net.fibers.length d', .slice r' l'.length e'] 38) := ⟨_, rfl⟩
      have hf4 : Fresh w3 W4 := by rw [hW4]; exact fnew (frefl _) _
      have hr4 : RowAt W4 w3.heap.size 38 [.slice q' P.net.nodes.length c', .slice p' P.net.fibers.length d', .slice r' l'.length e'] := by rw [hW4]; exact RowAt.new _ _ _
      have HB3 := Lib.hid (fstep HB2.out (fstep hb hf4))
      have hw23 : w.heap.size ≤ w2.heap.size := by have := (fstep HF2.out HB2.out).size; exact this
      have HR4 := Lib.hid hr4
      have HO1 := Lib.hid ((o1.mono hw23).keep hf4)
      have HO2 := Lib.hid ((o2.mono hw23).keep hf4)
      have HO4 : Hid (∀ x ∈ l', Own W4 w.heap.size 3 x.r.q (x.r.fibs.map iv)) := fun x hx => ((o4 x hx).mono hw23).keep hf4
      have HO5 := Lib.hid o5
      have HO6 := Lib.hid o6
      have HO78 := Lib.hid (And.intro o7 (And.intro o8 (And.intro o9 o10)))
      have HO11 := Lib.hid (owns_mono (ownsRow_keep o11 hf4) hw23)
      have hn' : l'.length ≤ 1048576 := by
        have e1 := congrArg List.length o6
        have := (planB_at (show planB P = true by
          have h9 := HYES.out
          cases hh : planB P
          · rw [relF_no (relB_plan hh)] at h9; exact absurd (congrArg Prod.snd h9) (by simp)
          · rfl)).2.1
        simp at e1; omega
      have HW4 := Lib.hid hW4
      have a3 := (HR1.out.keep HB3.out).cell (i := 3) rfl
      have hgx : w.heap.size + 1 ≠ w3.heap.size := by have h1 := (HR2.out.keep HB2.out).lt; have h2 := hb.size; omega
      have hgy : w.heap.size ≠ w3.heap.size := by have h1 := (HR1.out.keep HB2.out).lt; have h2 := hb.size; omega
      have h3w : w.heap.size ≤ w3.heap.size := Nat.le_trans hw23 hb.size
      clear hb hf4 hr4 hW4 o1 o2 o3 o4 o5 o6 o7 o8 o9 o10 o11 HCP a0 a1 a2
      by_cases hz : l'.length = 0
      · have hl0 : l' = [] := List.eq_nil_of_length_eq_zero hz
        have HDF := Lib.hid (deleteFunc_nil 55 #[.pointer (some ⟨w.heap.size, 0, none⟩)] r' e' W4 enters_r2)
        have HKP : Hid (keepL P.lights ids = ([] : List LL).map LL.val) := by show _ = _; rw [HO6.out, hl0]; rfl
        subst hl0
        go_wp2_with fail
        rw [← (show W4 = w3.alloc (.cells #[.slice q' P.net.nodes.length c', .slice p' P.net.fibers.length d', .slice r' 0 e'] 38) from HW4.out)]
        refine (HDF.out).mono ?_
        rintro e w5 ⟨rfl, hb⟩
        have hpl := HR4.out.keep hb
        have y2 := hpl.cell (i := 2) rfl
        have yf := hpl.frozen 2
        have hps := hpl.set 2 (.slice r' 0 e')
        have m0 := hps.cell (i := 0) rfl
        have m1 := hps.cell (i := 1) rfl
        have m2 := hps.cell (i := 2) rfl
        have hrz := ((HR2.out.keep HB3.out).keep hb).setOther (o := 2) hgx (.slice r' 0 e')
        have t0 := hrz.cell (i := 0) rfl
        have t1 := hrz.cell (i := 1) rfl
        have t2 := hrz.cell (i := 2) rfl
        have u0 := hrz.frozen 0
        have u1 := hrz.frozen 1
        have u2 := hrz.frozen 2
        have hfin := ((hrz.set 0 (.slice q' P.net.nodes.length c')).set 1 (.slice p' P.net.fibers.length d')).set 2 (.slice r' 0 e')
        have k0 := hfin.cell (i := 0) rfl
        have k1 := hfin.cell (i := 1) rfl
        have k2 := hfin.cell (i := 2) rfl
        have HPL := Lib.hid hpl
        have HRZ := Lib.hid hrz
        have HB5 := Lib.hid (fstep HB3.out hb)
        have HBX := Lib.hid hb
        clear hb hpl hps hrz hfin HDF
        go_wp2
        refine bodyPost_ret (v := .tuple #[.agg #[.slice q' P.net.nodes.length c', .slice p' P.net.fibers.length d', .slice r' 0 e'], .bool true]) (by simp [results, Tryz.results12, go_sem, k0, k1, k2]) rfl ?_
        rw [HYES.out]
        have hS : ∀ {t : TypeId} {pp : Option Addr} {cs : List Value}, Own W4 w.heap.size t pp cs → t ≠ 38 → Own ((((w5.setCell ⟨w3.heap.size, 2, none⟩ (.slice r' 0 e')).setCell ⟨w.heap.size + 1, 0, none⟩ (.slice q' P.net.nodes.length c')).setCell ⟨w.heap.size + 1, 1, none⟩ (.slice p' P.net.fibers.length d')).setCell ⟨w.heap.size + 1, 2, none⟩ (.slice r' 0 e')) w.heap.size t pp cs := by
          intro t pp cs h n
          exact ((((h.keep HBX.out).setO HPL.out n _ _).setO HRZ.out n _ _).setO (HRZ.out.set 0 _) n _ _).setO ((HRZ.out.set 0 _).set 1 _) n _ _
        obtain ⟨b7, b8, b9, b10⟩ := HO78.out
        refine ⟨_, rfl, ⟨q', c', p', d', r', e', [], rfl, hS HO1.out (by decide), hS HO2.out (by decide), ?_, (by intro x hx; cases hx), (by intro i j x y _ hx; simp at hx), HKP.out, b7, b8, b9, b10⟩, fset (fset (fset (fset (fstep HF2.out HB5.out) h3w _) (by omega) _) (by omega) _) (by omega) _⟩
        obtain ⟨pr, cr, e9, ho⟩ := own_of_row HO11.out
        cases e9
        exact hS ho (by decide)
      · obtain ⟨g, sp, rfl, hg, hrow, hnc, hcm, _⟩ := owns_rowL HO11.out (by omega)
        have hgl : g < w3.heap.size := by
          have := HO11.out
          rcases Nat.lt_or_ge g w3.heap.size with h' | h'
          · exact h'
          · exfalso
            have h1 := hrow.lt
            have h2 : W4.heap.size = w3.heap.size + 1 := by rw [HW4.out]; simp
            have h3 : g = w3.heap.size := by omega
            rw [h3] at hrow
            exact absurd (hrow.inj HR4.out).1 (by decide)
        have hn1 : w.heap.size ≠ g := fun e => by
          rw [← e] at hrow
          exact absurd (hrow.inj (HR1.out.keep HB3.out)).1 (by decide)
        have hn2 : w.heap.size + 1 ≠ g := fun e => by
          rw [← e] at hrow
          exact absurd (hrow.inj (HR2.out.keep HB3.out)).1 (by decide)
        have hn3 : w3.heap.size ≠ g := by omega
        have HTW : Hid (Own W4 0 3 t (ids.map iv) ∨ True) := Or.inr trivial
        have hcl : ∀ x ∈ l', ∀ (w' : World), Srt g W4 w' → Calls Tryz.prog 55 (#[llV x] ++ #[.pointer (some ⟨w.heap.size, 0, none⟩)]) w' fun e w'' => e = .returned (.bool (ids.contains x.id)) ∧ Fresh w' w'' := by
          intro x hx w' hs
          refine r2_any ids q p r t m c k d i e0 y bk w.heap.size x w' ?_ hn (hs.1 _ _ _ (HR1.out.keep HB3.out) hn1)
          exact ((HT.out.keep (hs.2 w (fstep HF2.out HB3.out) hg)))
        have HDF := Lib.hid (deleteFunc_any 55 #[.pointer (some ⟨w.heap.size, 0, none⟩)] g e' l' sp (fun x => ids.contains x.id) W4 hrow (fun x hx => (HO4.out x hx).ints) hnc (by simpa [maxLen] using hcm) hn' enters_r2 hcl)
        have HROW := Lib.hid hrow
        have HKP : Hid (keepL P.lights ids = (l'.filter fun x => !ids.contains x.id).map LL.val) := by show _ = _; rw [HO6.out, keep_vals]
        obtain ⟨F, hF⟩ : ∃ F, F = l'.filter fun x => !ids.contains x.id := ⟨_, rfl⟩
        rw [← hF] at HDF HKP
        have HFM : Hid (∀ x ∈ F, x ∈ l') := fun x hx => by rw [hF] at hx; exact (List.mem_filter.1 hx).1
        have HFD : Hid (DistL F) := by show DistL F; rw [hF]; exact HO5.out.filter _
        have HFL : Hid (F.length ≤ e') := by show F.length ≤ e'; rw [hF]; exact Nat.le_trans (List.length_filter_le _ _) hnc
        clear hF hcl hrow HTW hcm
        go_wp2_with fail
        rw [← HW4.out]
        refine (HDF.out).mono ?_
        rintro e w5 ⟨rfl, ⟨sp', hro⟩, hs⟩
        have hpl := hs.1 _ _ _ HR4.out hn3
        have y2 := hpl.cell (i := 2) rfl
        have yf := hpl.frozen 2
        have hps := hpl.set 2 (.slice (some ⟨g, 0, none⟩) F.length e')
        have m0 := hps.cell (i := 0) rfl
        have m1 := hps.cell (i := 1) rfl
        have m2 := hps.cell (i := 2) rfl
        have hrz := (hs.1 _ _ _ (HR2.out.keep HB3.out) hn2).setOther (o := 2) hgx (.slice (some ⟨g, 0, none⟩) F.length e')
        have t0 := hrz.cell (i := 0) rfl
        have t1 := hrz.cell (i := 1) rfl
        have t2 := hrz.cell (i := 2) rfl
        have u0 := hrz.frozen 0
        have u1 := hrz.frozen 1
        have u2 := hrz.frozen 2
        have hfin := ((hrz.set 0 (.slice q' P.net.nodes.length c')).set 1 (.slice p' P.net.fibers.length d')).set 2 (.slice (some ⟨g, 0, none⟩) F.length e')
        have k0 := hfin.cell (i := 0) rfl
        have k1 := hfin.cell (i := 1) rfl
        have k2 := hfin.cell (i := 2) rfl
        have HPL := Lib.hid hpl
        have HRZ := Lib.hid hrz
        have HSR := Lib.hid hs
        have HRO := Lib.hid hro
        clear hpl hps hrz hfin HDF hs hro
        go_wp2
        refine bodyPost_ret (v := .tuple #[.agg #[.slice q' P.net.nodes.length c', .slice p' P.net.fibers.length d', .slice (some ⟨g, 0, none⟩) F.length e'], .bool true]) (by simp [results, Tryz.results12, go_sem, k0, k1, k2]) rfl ?_
        rw [HYES.out]
        have hS5 : ∀ {t : TypeId} {pp : Option Addr} {cs : List Value}, Own w5 w.heap.size t pp cs → t ≠ 38 → Own ((((w5.setCell ⟨w3.heap.size, 2, none⟩ (.slice (some ⟨g, 0, none⟩) F.length e')).setCell ⟨w.heap.size + 1, 0, none⟩ (.slice q' P.net.nodes.length c')).setCell ⟨w.heap.size + 1, 1, none⟩ (.slice p' P.net.fibers.length d')).setCell ⟨w.heap.size + 1, 2, none⟩ (.slice (some ⟨g, 0, none⟩) F.length e')) w.heap.size t pp cs := by
          intro t pp cs h n
          exact (((h.setO HPL.out n _ _).setO HRZ.out n _ _).setO (HRZ.out.set 0 _) n _ _).setO ((HRZ.out.set 0 _).set 1 _) n _ _
        have hS : ∀ {t : TypeId} {pp : Option Addr} {cs : List Value}, Own W4 w.heap.size t pp cs → t ≠ 94 → t ≠ 38 → Own ((((w5.setCell ⟨w3.heap.size, 2, none⟩ (.slice (some ⟨g, 0, none⟩) F.length e')).setCell ⟨w.heap.size + 1, 0, none⟩ (.slice q' P.net.nodes.length c')).setCell ⟨w.heap.size + 1, 1, none⟩ (.slice p' P.net.fibers.length d')).setCell ⟨w.heap.size + 1, 2, none⟩ (.slice (some ⟨g, 0, none⟩) F.length e')) w.heap.size t pp cs := fun h n1 n2 => hS5 (h.srt HROW.out HSR.out n1) n2
        obtain ⟨b7, b8, b9, b10⟩ := HO78.out
        have hfr : Fresh w w5 := HSR.out.2 w (fstep HF2.out HB3.out) hg
        refine ⟨_, rfl, ⟨q', c', p', d', some ⟨g, 0, none⟩, e', F, rfl, hS HO1.out (by decide) (by decide), hS HO2.out (by decide) (by decide), hS5 (Or.inr ⟨g, sp', rfl, hg, HRO.out⟩) (by decide), fun x hx => hS (HO4.out x (HFM.out x hx)) (by decide) (by decide), HFD.out, HKP.out, b7, b8, HFL.out, b10⟩, fset (fset (fset (fset hfr h3w _) (by omega) _) (by omega) _) (by omega) _⟩
end Go.Proofs.YteckjlkhopkogaaGreat
