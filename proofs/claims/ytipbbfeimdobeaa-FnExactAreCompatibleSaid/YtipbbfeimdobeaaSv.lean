/- Contracts: services: sizes, copies, comparisons. -/
import Derived.Test.YtipbbfeimdobeaaU4
import Derived.StillTailTactics
namespace Go.Proofs.Ytipbbfeimdobeaa
open Go.RowKit Go.PlainAid

/-- A service as it lies in memory. -/
structure LS where
  id : Int
  cls : Int
  w : LR
  wf : Int
  wc : Int
  s : LR
  sf : Int
  sc : Int
abbrev lsC (x : LS) : List Value := [iv x.id, iv x.cls, iv x.w.start, .slice x.w.q x.w.fibs.length x.w.cap, iv x.wf, iv x.wc, iv x.s.start, .slice x.s.q x.s.fibs.length x.s.cap, iv x.sf, iv x.sc]
abbrev lsV (x : LS) : Value := .agg #[iv x.id, iv x.cls, iv x.w.start, .slice x.w.q x.w.fibs.length x.w.cap, iv x.wf, iv x.wc, iv x.s.start, .slice x.s.q x.s.fibs.length x.s.cap, iv x.sf, iv x.sc]
/-- A service as such. -/
structure SvV where
  id : Int
  cls : Int
  w : Int × List Int
  wb : Int × Int
  s : Int × List Int
  sb : Int × Int
abbrev LS.val (x : LS) : SvV := ⟨x.id, x.cls, x.w.val, (x.wf, x.wc), x.s.val, (x.sf, x.sc)⟩
def IntsS (w : World) (x : LS) : Prop := Ints w x.w.q x.w.fibs ∧ Ints w x.s.q x.s.fibs
theorem IntsS.keep {w w' : World} {x : LS} (h : IntsS w x) (hb : Fresh w w') : IntsS w' x := ⟨h.1.keep hb, h.2.keep hb⟩
def SvSm (n : Nat) (x : LS) : Prop := x.w.fibs.length ≤ n ∧ x.s.fibs.length ≤ n
def Svs (w : World) (p : Option Addr) (l : List LS) : Prop := Cells w p (l.flatMap lsC) ∧ ∀ x ∈ l, IntsS w x
theorem Svs.keep {w w' : World} {p : Option Addr} {l : List LS} (h : Svs w p l) (hb : Fresh w w') : Svs w' p l := ⟨h.1.keep hb, fun x hx => (h.2 x hx).keep hb⟩
theorem ls_get {l : List LS} {k : Nat} {f : LS} (hx : l[k]? = some f) (r : Nat) (hr : r < 10) : (l.flatMap lsC)[k * 10 + r]? = (lsC f)[r]? := flat_get lsC 10 (fun _ => rfl) l k r hr f hx

def SvAt (w : World) (b o : Nat) (x : LS) : Prop := w.cell? ⟨b, o, none⟩ = some (.int .i64 x.id) ∧ w.cell? ⟨b, o + 1, none⟩ = some (.int .i64 x.cls) ∧ w.cell? ⟨b, o + 2, none⟩ = some (.int .i64 x.w.start) ∧ w.cell? ⟨b, o + 3, none⟩ = some (.slice x.w.q x.w.fibs.length x.w.cap) ∧ w.cell? ⟨b, o + 4, none⟩ = some (.int .i64 x.wf) ∧ w.cell? ⟨b, o + 5, none⟩ = some (.int .i64 x.wc) ∧ w.cell? ⟨b, o + 6, none⟩ = some (.int .i64 x.s.start) ∧ w.cell? ⟨b, o + 7, none⟩ = some (.slice x.s.q x.s.fibs.length x.s.cap) ∧ w.cell? ⟨b, o + 8, none⟩ = some (.int .i64 x.sf) ∧ w.cell? ⟨b, o + 9, none⟩ = some (.int .i64 x.sc)
theorem Svs.at {w : World} {p : Option Addr} {l : List LS} (h : Svs w p l) {k : Nat} (hk : k < l.length) :
    ∃ b off x, p = some ⟨b, off, none⟩ ∧ l[k]? = some x ∧ x ∈ l ∧ IntsS w x ∧ SvAt w b (off + k * 10) x := by
  obtain ⟨b, off, rfl, hc⟩ := Cells.at h.1 (k := k) (by rw [flat_len lsC 10 (fun _ => rfl)]; omega)
  have hx : l[k]? = some l[k] := by simp [hk]
  refine ⟨b, off, _, rfl, hx, List.getElem_mem hk, h.2 _ (List.getElem_mem hk), hc _ _ ?_, ?_, ?_, ?_, ?_, ?_, ?_, ?_, ?_, ?_⟩
  · have := ls_get hx 0 (by omega); simpa using this
  · have := hc (k * 10 + 1) _ (by rw [ls_get hx 1 (by omega)]; rfl); rw [← Nat.add_assoc] at this; exact this
  · have := hc (k * 10 + 2) _ (by rw [ls_get hx 2 (by omega)]; rfl); rw [← Nat.add_assoc] at this; exact this
  · have := hc (k * 10 + 3) _ (by rw [ls_get hx 3 (by omega)]; rfl); rw [← Nat.add_assoc] at this; exact this
  · have := hc (k * 10 + 4) _ (by rw [ls_get hx 4 (by omega)]; rfl); rw [← Nat.add_assoc] at this; exact this
  · have := hc (k * 10 + 5) _ (by rw [ls_get hx 5 (by omega)]; rfl); rw [← Nat.add_assoc] at this; exact this
  · have := hc (k * 10 + 6) _ (by rw [ls_get hx 6 (by omega)]; rfl); rw [← Nat.add_assoc] at this; exact this
  · have := hc (k * 10 + 7) _ (by rw [ls_get hx 7 (by omega)]; rfl); rw [← Nat.add_assoc] at this; exact this
  · have := hc (k * 10 + 8) _ (by rw [ls_get hx 8 (by omega)]; rfl); rw [← Nat.add_assoc] at this; exact this
  · have := hc (k * 10 + 9) _ (by rw [ls_get hx 9 (by omega)]; rfl); rw [← Nat.add_assoc] at this; exact this

set_option maxHeartbeats 1000000 in
theorem szService_any (x : LS) (left : Int) (w : World) (hn : SvSm 9223372036854775807 x) (h0 : 0 ≤ left) (h1 : left ≤ 1048576) :
    Calls Try.prog 18 #[lsV x, .int .i64 left] w (SzOut w left (SvSm 1048576 x)) := by
  obtain ⟨id, cl, ⟨s, q, cap, l⟩, wf, wc, ⟨t, r, dap, m⟩, sf, sc⟩ := x
  obtain ⟨hn1, hn2⟩ := hn
  unfold SvSm
  simp only at hn1 hn2 ⊢
  obtain ⟨W1, hW1⟩ : ∃ W1, W1 = w.alloc (.cells #[.int .i64 id, .int .i64 cl, .int .i64 s, .slice q l.length cap, .int .i64 wf, .int .i64 wc, .int .i64 t, .slice r m.length dap, .int .i64 sf, .int .i64 sc] 51) := ⟨_, rfl⟩
  have hr : RowAt W1 w.heap.size 51 [.int .i64 id, .int .i64 cl, .int .i64 s, .slice q l.length cap, .int .i64 wf, .int .i64 wc, .int .i64 t, .slice r m.length dap, .int .i64 sf, .int .i64 sc] := by rw [hW1]; exact RowAt.new _ _ _
  have HF1 : Hid (Fresh w W1) := by show Fresh w W1; rw [hW1]; exact fnew (frefl _) _
  have HR := Lib.hid hr
  have HW1 := Lib.hid hW1
  clear hr hW1
  go_enter Try.func18, Try.ntmps18
  go_wp2_with fail
  rw [← HW1.out]
  refine (szRoute_any ⟨s, q, cap, l⟩ left _ hn1 h0 h1).mono ?_
  rintro e w1 ⟨r1, rfl, r0, r1', hr, hf⟩
  have d6 := (HR.out.keep hf).cell (i := 6) rfl
  have d7 := (HR.out.keep hf).cell (i := 7) rfl
  have HW := Lib.hid (fstep HF1.out hf)
  have HS := Lib.hid hr
  clear hf hr
  by_cases hneg : r1 < 0
  · go_wp2
    go_ret
    exact ⟨_, rfl, by omega, by omega, fun h => by omega, HW.out⟩
  · go_wp2_with fail
    refine (szRoute_any ⟨t, r, dap, m⟩ r1 _ hn2 (by omega) (by omega)).mono ?_
    rintro e w2 ⟨r2, rfl, r20, r21, hr2, hf2⟩
    have HW2 := Lib.hid (fstep HW.out hf2)
    have HS2 := Lib.hid hr2
    clear hf2 hr2
    by_cases hneg2 : r2 < 0
    · go_wp2
      go_ret
      exact ⟨_, rfl, by omega, by omega, fun h => by omega, HW2.out⟩
    · go_wp2
      go_ret
      exact ⟨_, rfl, by omega, by omega, fun h => ⟨HS.out (by omega), HS2.out h⟩, HW2.out⟩

def SvsSmall (l : List LS) : Prop := l.length ≤ 1048576 ∧ ∀ x ∈ l, SvSm 1048576 x
set_option maxHeartbeats 2000000 in
theorem eqService_same (x y : LS) (w : World) (he : x.val = y.val) (hx : IntsS w x) (hy : IntsS w y) (hn : SvSm 1048576 x) :
    Calls Try.prog 22 #[lsV x, lsV y] w fun e w' => e = .returned (.bool true) ∧ Fresh w w' := by
  obtain ⟨id, cl, ⟨s, q, cap, l⟩, wf, wc, ⟨t, r, dap, m⟩, sf, sc⟩ := x
  obtain ⟨id', cl', ⟨s', q', cap', l'⟩, wf', wc', ⟨t', r', dap', m'⟩, sf', sc'⟩ := y
  unfold IntsS SvSm at *
  simp only [LS.val, LR.val, SvV.mk.injEq, Prod.mk.injEq] at he hx hy hn ⊢
  obtain ⟨rfl, rfl, ⟨rfl, rfl⟩, ⟨rfl, rfl⟩, ⟨rfl, rfl⟩, ⟨rfl, rfl⟩⟩ := he
  obtain ⟨hx1, hx2⟩ := hx
  obtain ⟨hy1, hy2⟩ := hy
  obtain ⟨hn1, hn2⟩ := hn
  obtain ⟨W2, hW2, hsz2, hf2, r1, r2⟩ := two_rows w [.int .i64 id, .int .i64 cl, .int .i64 s, .slice q l.length cap, .int .i64 wf, .int .i64 wc, .int .i64 t, .slice r m.length dap, .int .i64 sf, .int .i64 sc] [.int .i64 id, .int .i64 cl, .int .i64 s, .slice q' l.length cap', .int .i64 wf, .int .i64 wc, .int .i64 t, .slice r' m.length dap', .int .i64 sf, .int .i64 sc] 58 58
  have HR1 := Lib.hid r1
  have HR2 := Lib.hid r2
  have HX1 := Lib.hid (hx1.keep hf2)
  have HY1 := Lib.hid (hy1.keep hf2)
  have HX2 := Lib.hid (hx2.keep hf2)
  have HY2 := Lib.hid (hy2.keep hf2)
  have HF2 := Lib.hid hf2
  have HW2 := Lib.hid hW2
  clear hx1 hx2 hy1 hy2 hf2 hW2 r1 r2 hsz2
  go_enter Try.func22, Try.ntmps22
  go_wp2_with fail
  rw [← HW2.out]
  refine (eqRoute_same ⟨s, q, cap, l⟩ ⟨s, q', cap', l⟩ W2 rfl HX1.out HY1.out hn1).mono ?_
  rintro e w1 ⟨rfl, hf⟩
  have k14 := (HR1.out.keep hf).cell (i := 4) rfl
  have k24 := (HR2.out.keep hf).cell (i := 4) rfl
  have k15 := (HR1.out.keep hf).cell (i := 5) rfl
  have k25 := (HR2.out.keep hf).cell (i := 5) rfl
  replace HR1 := Lib.hid (HR1.out.keep hf)
  replace HR2 := Lib.hid (HR2.out.keep hf)
  replace HX2 := Lib.hid (HX2.out.keep hf)
  replace HY2 := Lib.hid (HY2.out.keep hf)
  have HF2 := Lib.hid (fstep HF2.out hf)
  clear hf
  go_wp2_with fail
  refine (eqBlock_same wf wc _).mono ?_
  rintro e w2 ⟨rfl, hf⟩
  have k16 := (HR1.out.keep hf).cell (i := 6) rfl
  have k26 := (HR2.out.keep hf).cell (i := 6) rfl
  have k17 := (HR1.out.keep hf).cell (i := 7) rfl
  have k27 := (HR2.out.keep hf).cell (i := 7) rfl
  replace HR1 := Lib.hid (HR1.out.keep hf)
  replace HR2 := Lib.hid (HR2.out.keep hf)
  replace HX2 := Lib.hid (HX2.out.keep hf)
  replace HY2 := Lib.hid (HY2.out.keep hf)
  have HF2 := Lib.hid (fstep HF2.out hf)
  clear hf
  go_wp2_with fail
  refine (eqRoute_same ⟨t, r, dap, m⟩ ⟨t, r', dap', m⟩ _ rfl HX2.out HY2.out hn2).mono ?_
  rintro e w3 ⟨rfl, hf⟩
  have k18 := (HR1.out.keep hf).cell (i := 8) rfl
  have k28 := (HR2.out.keep hf).cell (i := 8) rfl
  have k19 := (HR1.out.keep hf).cell (i := 9) rfl
  have k29 := (HR2.out.keep hf).cell (i := 9) rfl
  replace HR1 := Lib.hid (HR1.out.keep hf)
  replace HR2 := Lib.hid (HR2.out.keep hf)
  replace HX2 := Lib.hid (HX2.out.keep hf)
  replace HY2 := Lib.hid (HY2.out.keep hf)
  have HF2 := Lib.hid (fstep HF2.out hf)
  clear hf
  go_wp2_with fail
  refine (eqBlock_same sf sc _).mono ?_
  rintro e w4 ⟨rfl, hf⟩
  have HF2 := Lib.hid (fstep HF2.out hf)
  clear hf
  go_wp2
  go_ret
  exact ⟨rfl, HF2.out⟩

abbrev zSv : List Value := [iv 0, iv 0, iv 0, .slice none 0 0, iv 0, iv 0, iv 0, .slice none 0 0, iv 0, iv 0]
theorem infoSv : (Try.prog.info? 58).map (fun i => (i.zero, i.size, i.bytes)) = some (some (.agg #[iv 0, iv 0, iv 0, .slice none 0 0, iv 0, iv 0, iv 0, .slice none 0 0, iv 0, iv 0]), zSv.length, 112) := by kernel_rfl
def OwnSv (w : World) (base : Nat) (x : LS) : Prop := Own w base 3 x.w.q (x.w.fibs.map iv) ∧ Own w base 3 x.s.q (x.s.fibs.map iv)
theorem OwnSv.keep {w w' : World} {base : Nat} {x : LS} (h : OwnSv w base x) (hb : Fresh w w') : OwnSv w' base x := ⟨h.1.keep hb, h.2.keep hb⟩
theorem OwnSv.mono {w : World} {base base' : Nat} {x : LS} (h : OwnSv w base x) (hb : base' ≤ base) : OwnSv w base' x := ⟨h.1.mono hb, h.2.mono hb⟩
theorem OwnSv.setOther {w : World} {base : Nat} {x : LS} (h : OwnSv w base x) {b o : Nat} (hb : b < base) (v : Value) : OwnSv (w.setCell ⟨b, o, none⟩ v) base x := ⟨h.1.setOther hb v, h.2.setOther hb v⟩
def OutService (w : World) (x : LS) (e : Ending) (w' : World) : Prop := ∃ y : LS, e = .returned (lsV y) ∧ y.val = x.val ∧ OwnSv w' w.heap.size y ∧ Fresh w w'
set_option maxHeartbeats 4000000 in
set_option maxRecDepth 100000 in
theorem toService_any (x : LS) (w : World) (hI : IntsS w x) (hn : SvSm 1048576 x) : Calls Try.prog 20 #[lsV x] w (OutService w x) := by
  obtain ⟨id, cl, ⟨s, q, cap, l⟩, wf, wc, ⟨t, r, dap, m⟩, sf, sc⟩ := x
  obtain ⟨hI1, hI2⟩ := hI
  obtain ⟨hn1, hn2⟩ := hn
  simp only at hI1 hI2 hn1 hn2 ⊢
  obtain ⟨W4, hW4, hsz4, hf4, g1, g2, g3⟩ := three_rows w [.int .i64 id, .int .i64 cl, .int .i64 s, .slice q l.length cap, .int .i64 wf, .int .i64 wc, .int .i64 t, .slice r m.length dap, .int .i64 sf, .int .i64 sc] zSv [.int .i64 id, .int .i64 cl, .int .i64 0, .slice none 0 0, .int .i64 0, .int .i64 0, .int .i64 0, .slice none 0 0, .int .i64 0, .int .i64 0] 51 58 58
  have HI1 := Lib.hid (hI1.keep hf4)
  have HI2 := Lib.hid hI2
  have HW4 := Lib.hid hW4
  have HSZ := Lib.hid hsz4
  have HT := Lib.hid (And.intro hf4 (And.intro g1 (And.intro g2 g3)))
  clear hW4 hsz4 hf4 g1 g2 g3 hI1 hI2
  go_enter Try.func20, Try.ntmps20
  go_wp2_with fail
  rw [← HW4.out]
  clear HW4
  refine (toRoute_any ⟨s, q, cap, l⟩ _ (HI1.out) hn1).mono ?_
  rintro e w1 ⟨⟨s1, q1, cap1, l1⟩, rfl, hv, ho, hf⟩
  simp only [LR.val, Prod.mk.injEq] at hv ho
  obtain ⟨rfl, rfl⟩ := hv
  have HO1 := Lib.hid (ho.mono (base' := w.heap.size + 1 + 1 + 1) (by have := HSZ.out; omega))
  clear ho
  obtain ⟨hfw, t1, t2, t3⟩ := HT.out
  have hsz4 := HSZ.out
  replace hfw := fstep hfw hf
  replace t1 := t1.keep hf
  replace t2 := t2.keep hf
  replace t3 := t3.keep hf
  have k14 := t1.cell (i := 4) rfl
  have k15 := t1.cell (i := 5) rfl
  have k32 := t3.cell (i := 2) rfl
  have z32 := t3.frozen 2
  have k33 := t3.cell (i := 3) rfl
  have z33 := t3.frozen 3
  obtain ⟨v1, hv1⟩ : ∃ v, v = ((w1.setCell ⟨w.heap.size + 1 + 1, 2, none⟩ (.int .i64 s1)).setCell ⟨w.heap.size + 1 + 1, 3, none⟩ (.slice q1 l1.length cap1)) := ⟨_, rfl⟩
  replace t1 : RowAt v1 w.heap.size 51 [.int .i64 id, .int .i64 cl, .int .i64 s1, .slice q l1.length cap, .int .i64 wf, .int .i64 wc, .int .i64 t, .slice r m.length dap, .int .i64 sf, .int .i64 sc] := by rw [hv1]; exact ((t1.setOther (by omega) _).setOther (by omega) _)
  replace t2 : RowAt v1 (w.heap.size + 1) 58 zSv := by rw [hv1]; exact ((t2.setOther (by omega) _).setOther (by omega) _)
  replace t3 : RowAt v1 (w.heap.size + 1 + 1) 58 [iv id, iv cl, iv s1, .slice q1 l1.length cap1, iv 0, iv 0, iv 0, .slice none 0 0, iv 0, iv 0] := by rw [hv1]; exact ((t3.set 2 _).set 3 _)
  have hfv : Fresh w v1 := by rw [hv1]; exact fset (fset (hfw) (by omega) _) (by omega) _
  replace HO1 : Hid (Own v1 (w.heap.size + 1 + 1 + 1) 3 q1 (l1.map iv)) := by show Own v1 (w.heap.size + 1 + 1 + 1) 3 q1 (l1.map iv); rw [hv1]; exact ((HO1.out.setOther (by omega) _).setOther (by omega) _)
  have HV := Lib.hid hv1
  replace HT := Lib.hid (And.intro hfv (And.intro t1 (And.intro t2 t3)))
  clear hfw t1 t2 t3 hf hv1 hfv hsz4
  go_wp2_with fail
  rw [← HV.out]
  clear HV k14 k15 k32 z32 k33 z33
  refine (toBlock_any wf wc _).mono ?_
  rintro e w2 ⟨rfl, hf⟩
  replace HO1 := Lib.hid (HO1.out.keep hf)
  obtain ⟨hfw, t1, t2, t3⟩ := HT.out
  have hsz4 := HSZ.out
  replace hfw := fstep hfw hf
  replace t1 := t1.keep hf
  replace t2 := t2.keep hf
  replace t3 := t3.keep hf
  have k16 := t1.cell (i := 6) rfl
  have k17 := t1.cell (i := 7) rfl
  have k34 := t3.cell (i := 4) rfl
  have z34 := t3.frozen 4
  have k35 := t3.cell (i := 5) rfl
  have z35 := t3.frozen 5
  obtain ⟨v2, hv2⟩ : ∃ v, v = ((w2.setCell ⟨w.heap.size + 1 + 1, 4, none⟩ (.int .i64 wf)).setCell ⟨w.heap.size + 1 + 1, 5, none⟩ (.int .i64 wc)) := ⟨_, rfl⟩
  replace t1 : RowAt v2 w.heap.size 51 [.int .i64 id, .int .i64 cl, .int .i64 s1, .slice q l1.length cap, .int .i64 wf, .int .i64 wc, .int .i64 t, .slice r m.length dap, .int .i64 sf, .int .i64 sc] := by rw [hv2]; exact ((t1.setOther (by omega) _).setOther (by omega) _)
  replace t2 : RowAt v2 (w.heap.size + 1) 58 zSv := by rw [hv2]; exact ((t2.setOther (by omega) _).setOther (by omega) _)
  replace t3 : RowAt v2 (w.heap.size + 1 + 1) 58 [iv id, iv cl, iv s1, .slice q1 l1.length cap1, iv wf, iv wc, iv 0, .slice none 0 0, iv 0, iv 0] := by rw [hv2]; exact ((t3.set 4 _).set 5 _)
  have hfv : Fresh w v2 := by rw [hv2]; exact fset (fset (hfw) (by omega) _) (by omega) _
  replace HO1 : Hid (Own v2 (w.heap.size + 1 + 1 + 1) 3 q1 (l1.map iv)) := by show Own v2 (w.heap.size + 1 + 1 + 1) 3 q1 (l1.map iv); rw [hv2]; exact ((HO1.out.setOther (by omega) _).setOther (by omega) _)
  have HV := Lib.hid hv2
  replace HT := Lib.hid (And.intro hfv (And.intro t1 (And.intro t2 t3)))
  clear hfw t1 t2 t3 hf hv2 hfv hsz4
  go_wp2_with fail
  rw [← HV.out]
  clear HV k16 k17 k34 z34 k35 z35
  refine (toRoute_any ⟨t, r, dap, m⟩ _ (HI2.out.keep HT.out.1) hn2).mono ?_
  rintro e w3 ⟨⟨t1', r1, dap1, m1⟩, rfl, hv, ho, hf⟩
  simp only [LR.val, Prod.mk.injEq] at hv ho
  obtain ⟨rfl, rfl⟩ := hv
  have HO2 := Lib.hid (ho.mono (base' := w.heap.size + 1 + 1 + 1) (by have := HSZ.out; have := HT.out.1.size; have := HT.out.2.2.2.lt; omega))
  clear ho
  replace HO1 := Lib.hid (HO1.out.keep hf)
  obtain ⟨hfw, t1, t2, t3⟩ := HT.out
  have hsz4 := HSZ.out
  replace hfw := fstep hfw hf
  replace t1 := t1.keep hf
  replace t2 := t2.keep hf
  replace t3 := t3.keep hf
  have k18 := t1.cell (i := 8) rfl
  have k19 := t1.cell (i := 9) rfl
  have k36 := t3.cell (i := 6) rfl
  have z36 := t3.frozen 6
  have k37 := t3.cell (i := 7) rfl
  have z37 := t3.frozen 7
  obtain ⟨v3, hv3⟩ : ∃ v, v = ((w3.setCell ⟨w.heap.size + 1 + 1, 6, none⟩ (.int .i64 t1')).setCell ⟨w.heap.size + 1 + 1, 7, none⟩ (.slice r1 m1.length dap1)) := ⟨_, rfl⟩
  replace t1 : RowAt v3 w.heap.size 51 [.int .i64 id, .int .i64 cl, .int .i64 s1, .slice q l1.length cap, .int .i64 wf, .int .i64 wc, .int .i64 t1', .slice r m1.length dap, .int .i64 sf, .int .i64 sc] := by rw [hv3]; exact ((t1.setOther (by omega) _).setOther (by omega) _)
  replace t2 : RowAt v3 (w.heap.size + 1) 58 zSv := by rw [hv3]; exact ((t2.setOther (by omega) _).setOther (by omega) _)
  replace t3 : RowAt v3 (w.heap.size + 1 + 1) 58 [iv id, iv cl, iv s1, .slice q1 l1.length cap1, iv wf, iv wc, iv t1', .slice r1 m1.length dap1, iv 0, iv 0] := by rw [hv3]; exact ((t3.set 6 _).set 7 _)
  have hfv : Fresh w v3 := by rw [hv3]; exact fset (fset (hfw) (by omega) _) (by omega) _
  replace HO1 : Hid (Own v3 (w.heap.size + 1 + 1 + 1) 3 q1 (l1.map iv)) := by show Own v3 (w.heap.size + 1 + 1 + 1) 3 q1 (l1.map iv); rw [hv3]; exact ((HO1.out.setOther (by omega) _).setOther (by omega) _)
  replace HO2 : Hid (Own v3 (w.heap.size + 1 + 1 + 1) 3 r1 (m1.map iv)) := by show Own v3 (w.heap.size + 1 + 1 + 1) 3 r1 (m1.map iv); rw [hv3]; exact ((HO2.out.setOther (by omega) _).setOther (by omega) _)
  have HV := Lib.hid hv3
  replace HT := Lib.hid (And.intro hfv (And.intro t1 (And.intro t2 t3)))
  clear hfw t1 t2 t3 hf hv3 hfv hsz4
  go_wp2_with fail
  rw [← HV.out]
  clear HV k18 k19 k36 z36 k37 z37
  refine (toBlock_any sf sc _).mono ?_
  rintro e w4 ⟨rfl, hf⟩
  obtain ⟨hfw, t1, t2, t3⟩ := HT.out
  have hsz4 := HSZ.out
  replace HO1 := Lib.hid (HO1.out.keep hf)
  replace HO2 := Lib.hid (HO2.out.keep hf)
  replace hfw := fstep hfw hf
  replace t2 := t2.keep hf
  replace t3 := t3.keep hf
  have k20 := t2.cell (i := 0) rfl
  have z20 := t2.frozen 0
  have k30 := t3.cell (i := 0) rfl
  have z30 := t3.frozen 0
  have k21 := t2.cell (i := 1) rfl
  have z21 := t2.frozen 1
  have k31 := t3.cell (i := 1) rfl
  have z31 := t3.frozen 1
  have k22 := t2.cell (i := 2) rfl
  have z22 := t2.frozen 2
  have k32 := t3.cell (i := 2) rfl
  have z32 := t3.frozen 2
  have k23 := t2.cell (i := 3) rfl
  have z23 := t2.frozen 3
  have k33 := t3.cell (i := 3) rfl
  have z33 := t3.frozen 3
  have k24 := t2.cell (i := 4) rfl
  have z24 := t2.frozen 4
  have k34 := t3.cell (i := 4) rfl
  have z34 := t3.frozen 4
  have k25 := t2.cell (i := 5) rfl
  have z25 := t2.frozen 5
  have k35 := t3.cell (i := 5) rfl
  have z35 := t3.frozen 5
  have k26 := t2.cell (i := 6) rfl
  have z26 := t2.frozen 6
  have k36 := t3.cell (i := 6) rfl
  have z36 := t3.frozen 6
  have k27 := t2.cell (i := 7) rfl
  have z27 := t2.frozen 7
  have k37 := t3.cell (i := 7) rfl
  have z37 := t3.frozen 7
  have k28 := t2.cell (i := 8) rfl
  have z28 := t2.frozen 8
  have k38 := t3.cell (i := 8) rfl
  have z38 := t3.frozen 8
  have k29 := t2.cell (i := 9) rfl
  have z29 := t2.frozen 9
  have k39 := t3.cell (i := 9) rfl
  have z39 := t3.frozen 9
  have HFW := Lib.hid hfw
  clear t1 t2 t3 hfw hf HT HSZ
  have HSZ := Lib.hid hsz4
  clear hsz4
  go_wp2
  have hsz4 := HSZ.out
  refine bodyPost_ret (v := .agg #[.int .i64 id, .int .i64 cl, .int .i64 s1, .slice q1 l1.length cap1, .int .i64 wf, .int .i64 wc, .int .i64 t1', .slice r1 m1.length dap1, .int .i64 sf, .int .i64 sc]) (by simp [results, Try.results20, go_sem, k20, k21, k22, k23, k24, k25, k26, k27, k28, k29]) rfl ?_
  refine ⟨⟨id, cl, ⟨s1, q1, cap1, l1⟩, wf, wc, ⟨t1', r1, dap1, m1⟩, sf, sc⟩, rfl, rfl, ⟨?_, ?_⟩, ?_⟩
  · refine Own.mono (base := w.heap.size + 1 + 1 + 1) ?_ (by omega)
    repeat (refine Own.setOther ?_ (by omega) _)
    exact HO1.out
  · refine Own.mono (base := w.heap.size + 1 + 1 + 1) ?_ (by omega)
    repeat (refine Own.setOther ?_ (by omega) _)
    exact HO2.out
  · repeat (refine fset ?_ (by omega) _)
    exact HFW.out

theorem setL_rowS (f : LS → List Value) (l' : List LS) (a : LS) (m : Nat) (z : List Value) (hf : ∀ x, (f x).length = z.length) : setL (l'.flatMap f ++ zs z (m + 1)) (l'.length * z.length) (f a) = (l' ++ [a]).flatMap f ++ zs z m := by
  have hl : (l'.flatMap f).length = l'.length * z.length := flat_len f z.length hf l'
  rw [zs_succ, ← hl, setL_mid (f a) _ z _ (by rw [hf])]
  simp
end Go.Proofs.Ytipbbfeimdobeaa
