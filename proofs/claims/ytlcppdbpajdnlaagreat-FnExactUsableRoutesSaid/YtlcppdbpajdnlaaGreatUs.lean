/- Contracts: the usable routes of a demand, the program's side. -/
import Derived.Test.YtlcppdbpajdnlaaGreatUsP
import Derived.Test.YtlcppdbpajdnlaaGreatKDm
namespace Go.Proofs.YtlcppdbpajdnlaaGreat
open Go.RowKit Go.PlainAid

/-- A choice as it lies in memory: a route and its slots. -/
structure CH where
  r : LR
  k : Int
abbrev chC (x : CH) : List Value := [iv x.r.start, .slice x.r.q x.r.fibs.length x.r.cap, iv x.k]
abbrev CH.val (x : CH) : ChV := (x.r.val, x.k)
def chsOf (n : Net) (fm : List (Int × Int)) (r : Int) (l : List LR) : List CH := (l.filter fun x => !(useS n fm r x.val == 0)).map fun x => ⟨x, useS n fm r x.val⟩
theorem chs_val (n : Net) (fm : List (Int × Int)) (r : Int) (l : List LR) : (chsOf n fm r l).map CH.val = usL n fm r (l.map LR.val) := by
  unfold chsOf usL
  rw [List.filter_map, List.map_map, List.map_map]
  rfl
theorem chs_no {n : Net} {fm : List (Int × Int)} {r : Int} {l : List LR} {x : LR} (h : useS n fm r x.val = 0) : chsOf n fm r (l ++ [x]) = chsOf n fm r l := by
  unfold chsOf
  rw [List.filter_append]
  simp [h]
theorem chs_yes {n : Net} {fm : List (Int × Int)} {r : Int} {l : List LR} {x : LR} (h : ¬ useS n fm r x.val = 0) : chsOf n fm r (l ++ [x]) = chsOf n fm r l ++ [⟨x, useS n fm r x.val⟩] := by
  unfold chsOf
  rw [List.filter_append]
  simp [h]
theorem chs_len (n : Net) (fm : List (Int × Int)) (r : Int) (l : List LR) : (chsOf n fm r l).length ≤ l.length := by
  unfold chsOf
  rw [List.length_map]
  exact List.length_filter_le _ _
theorem chs_rs (n : Net) (fm : List (Int × Int)) (r : Int) (l : List LR) : (chsOf n fm r l).map CH.r = l.filter fun x => !(useS n fm r x.val == 0) := by
  unfold chsOf
  rw [List.map_map]
  exact List.map_id _
theorem DistR.pw {l : List LR} : DistR l ↔ l.Pairwise fun x y => ∀ g o h o', x.q = some ⟨g, o, none⟩ → y.q = some ⟨h, o', none⟩ → g ≠ h := by
  rw [List.pairwise_iff_getElem]
  constructor
  · intro h i j hi hj hij
    exact h i j l[i] l[j] (by omega) (List.getElem?_eq_getElem hi) (List.getElem?_eq_getElem hj)
  · intro h i j x y hij hx hy g o g' o' e1 e2
    obtain ⟨hi, rfl⟩ := List.getElem?_eq_some_iff.1 hx
    obtain ⟨hj, rfl⟩ := List.getElem?_eq_some_iff.1 hy
    rcases Nat.lt_or_gt_of_ne hij with h1 | h1
    · exact h i j hi hj h1 g o g' o' e1 e2
    · exact (h j i hj hi h1 g' o' g o e2 e1).symm
theorem DistR.filter {l : List LR} (h : DistR l) (p : LR → Bool) : DistR (l.filter p) := DistR.pw.2 ((DistR.pw.1 h).sublist List.filter_sublist)
/-- Choices in a row of the call's own. -/
structure Chs (w : World) (base : Nat) (V : Value) (l : List CH) : Prop where
  row : w.ownsRow base 84 3 V l.length (l.flatMap chC)
  fib : ∀ x ∈ l, Own w base 3 x.r.q (x.r.fibs.map iv)
  dist : DistR (l.map CH.r)
  cap : ∀ x ∈ l, x.r.fibs.length ≤ x.r.cap ∧ x.r.cap ≤ 9223372036854775807
theorem Chs.keep {w w' : World} {base : Nat} {V : Value} {l : List CH} (h : Chs w base V l) (hb : Fresh w w') : Chs w' base V l := ⟨ownsRow_keep h.row hb, fun x hx => (h.fib x hx).keep hb, h.dist, h.cap⟩
theorem Chs.mono {w : World} {base base' : Nat} {V : Value} {l : List CH} (h : Chs w base V l) (hb : base' ≤ base) : Chs w base' V l := ⟨owns_mono h.row hb, fun x hx => (h.fib x hx).mono hb, h.dist, h.cap⟩
theorem Chs.nil (w : World) (base : Nat) {V : Value} (h : w.ownsRow base 84 3 V 0 []) : Chs w base V [] := ⟨h, fun x hx => by simp at hx, DistR.nil, fun x hx => by simp at hx⟩
theorem Chs.none (w : World) (base : Nat) : Chs w base (.slice none 0 0) [] := Chs.nil _ _ ⟨rfl, Or.inl ⟨rfl, rfl⟩⟩
theorem infoCh : (Tryz.prog.info? 84).map (fun i => (i.zero, i.size, i.bytes)) = some (some (.agg #[iv 0, .slice none 0 0, iv 0]), 3, 40) := by kernel_rfl
theorem Rts.typ {w w' : World} {base : Nat} {V : Value} {l : List LR} {T : TypeId} (h : Rts w base V l) (hk : ∀ g t cs, RowAt w g t cs → t ≠ T → RowAt w' g t cs) (h1 : T ≠ 53) (h2 : T ≠ 3) : Rts w' base V l := by
  refine ⟨?_, fun x hx => (h.fib x hx).grown hk h2.symm, h.dist, h.cap⟩
  obtain ⟨a1, a2⟩ := h.row
  refine ⟨a1, ?_⟩
  rcases a2 with a2 | ⟨g, cap, cur, hv, hb, hh, r⟩
  · exact Or.inl a2
  · exact Or.inr ⟨g, cap, cur, hv, hb, by have := hk g _ cur.toList (show RowAt w g _ cur.toList from by unfold RowAt; exact hh) h1.symm; unfold RowAt at this; exact this, r⟩
/-- What is handed back: the usable routes with their slots, in a row of choices. -/
def OutC (n : Net) (fm : List (Int × Int)) (d : Fib) (w : World) (e : Ending) (w' : World) : Prop := ∃ (V : Value) (l : List CH), e = .returned (.tuple #[V, .bool (usOk n fm d)]) ∧ Chs w' w.heap.size V l ∧ l.map CH.val = (usF n fm d).1 ∧ Fresh w w'
theorem outC_no {n : Net} {fm : List (Int × Int)} {d : Fib} {w w' : World} (h : usOk n fm d = false) (hf : Fresh w w') : OutC n fm d w (.returned (.tuple #[.slice none 0 0, .bool false])) w' := ⟨_, [], by rw [h], Chs.none _ _, by rw [usF_no h]; rfl, hf⟩
/-- The cells of a route of a row. -/
theorem rts_at {w : World} {base : Nat} {p : Option Addr} {c : Nat} {l : List LR} (h : Rts w base (.slice p l.length c) l) {j : Nat} (hj : j < l.length) :
    ∃ g x, p = some ⟨g, 0, none⟩ ∧ l[j]? = some x ∧ x ∈ l ∧ w.cell? ⟨g, j * 2, none⟩ = some (iv x.start) ∧ w.cell? ⟨g, j * 2 + 1, none⟩ = some (.slice x.q x.fibs.length x.cap) := by
  obtain ⟨p', c', hpe, hown, _, _⟩ := owns_cap h.row
  cases hpe
  rcases hown with ⟨_, h0⟩ | ⟨g, sp, rfl, hg, hrow⟩
  · exfalso
    have := congrArg List.length h0
    rw [flat_len lrC 2 (fun _ => rfl)] at this
    simp at this; omega
  obtain ⟨x, hx⟩ : ∃ x, l[j]? = some x := ⟨l[j], List.getElem?_eq_getElem hj⟩
  exact ⟨g, x, rfl, hx, List.mem_of_getElem? hx, hrow.cell (by rw [List.getElem?_append_left (by rw [flat_len lrC 2 (fun _ => rfl)]; omega)]; exact flat_get lrC 2 (fun _ => rfl) l j 0 (by omega) x hx),
    hrow.cell (by rw [List.getElem?_append_left (by rw [flat_len lrC 2 (fun _ => rfl)]; omega)]; exact flat_get lrC 2 (fun _ => rfl) l j 1 (by omega) x hx)⟩
set_option maxHeartbeats 4000000 in
set_option maxRecDepth 20000 in
theorem usable_any (v : Value) (n : Net) (pf : Option Addr) (cf : Nat) (fm : List (Int × Int)) (d : Fib) (w : World) (h : NetIn w v n) (hfm : Prs w pf fm) (hfl : fm.length ≤ 1048576) :
    Calls Tryz.prog 46 #[v, .slice pf fm.length cf, fibV d] w (OutC n fm d w) := by
  have HN := Lib.hid h
  have HP := Lib.hid hfm
  obtain ⟨qn, cn, pn, cp, rfl, _, _, n1, _, _, _, _⟩ := h
  obtain ⟨W2, hW2, hsz2, hf2, r1, r2⟩ := two_rows w [.slice qn n.nodes.length cn, .slice pn n.fibers.length cp] [.int .i64 d.a, .int .i64 d.b, .int .i64 d.len, .int .i64 d.risk] 37 41
  have HF2 := Lib.hid hf2
  have HR1 := Lib.hid r1
  have HR2 := Lib.hid r2
  have HW2 := Lib.hid hW2
  have HFM := Lib.hid (implIsValidFormats_any pf cf fm W2 (HP.out.keep hf2) hfl)
  clear hfm hf2 r1 r2 hW2
  cases hfv : fmtsB fm
  · have HNO : Hid (usOk n fm d = false) := by show _ = _; unfold usOk usB; rw [hfv]; simp
    rw [hfv] at HFM
    clear hfv
    go_enter Tryz.func46, Tryz.ntmps46
    go_wp2_with fail
    rw [← HW2.out]
    refine (HFM.out).mono ?_
    rintro e w3 ⟨rfl, hf⟩
    have HF := Lib.hid (fstep HF2.out hf)
    clear hf HFM
    go_wp2
    go_ret2
    exact outC_no HNO.out HF.out
  have HFV := Lib.hid hfv
  rw [hfv] at HFM
  clear hfv
  go_enter Tryz.func46, Tryz.ntmps46
  go_wp2_with fail
  rw [← HW2.out]
  refine (HFM.out).mono ?_
  rintro e w3 ⟨rfl, hf⟩
  have HF := Lib.hid (fstep HF2.out hf)
  have a0 := (HR1.out.keep hf).cell (i := 0) rfl
  have a1 := (HR1.out.keep hf).cell (i := 1) rfl
  have d0 := (HR2.out.keep hf).cell (i := 0) rfl
  have d1 := (HR2.out.keep hf).cell (i := 1) rfl
  have d2 := (HR2.out.keep hf).cell (i := 2) rfl
  have d3 := (HR2.out.keep hf).cell (i := 3) rfl
  obtain ⟨W4, hW4⟩ : ∃ W, W = w3.alloc (.cells #[.int .i64 d.a, .int .i64 d.b, .int .i64 d.len, .int .i64 d.risk] 41) := ⟨_, rfl⟩
  have hf4 : Fresh w3 W4 := by rw [hW4]; exact fnew (frefl _) _
  have hr4 : RowAt W4 w3.heap.size 41 [.int .i64 d.a, .int .i64 d.b, .int .i64 d.len, .int .i64 d.risk] := by rw [hW4]; exact RowAt.new _ _ _
  have hfib : Fibs W4 (some ⟨w3.heap.size, 0, none⟩) [d] := by
    refine Or.inr ⟨w3.heap.size, 0, rfl, fun j u hj => ?_⟩
    rw [Nat.zero_add]
    exact hr4.cell (by simpa using hj)
  have HD := Lib.hid (implIsValidDemands_any _ n (some ⟨w3.heap.size, 0, none⟩) 1 [d] W4 (HN.out.keep (fstep HF.out hf4)) hfib (by simp))
  rw [dem_one] at HD
  have HF4 := Lib.hid (fstep HF.out hf4)
  have HR14 := Lib.hid ((HR1.out.keep hf).keep hf4)
  have HR24 := Lib.hid ((HR2.out.keep hf).keep hf4)
  have HW4 := Lib.hid hW4
  clear hf HFM hf4 hr4 hfib hW4
  go_wp2_with fail
  rw [← HW4.out]
  refine (HD.out).mono ?_
  rintro e w5 ⟨rfl, hf⟩
  have HF5 := Lib.hid (fstep HF4.out hf)
  have HR15 := Lib.hid (HR14.out.keep hf)
  have HR25 := Lib.hid (HR24.out.keep hf)
  clear hf HD a0 a1 d0 d1 d2 d3
  cases hdb : netB n && demB n.nodes.length d
  · have HNO : Hid (usOk n fm d = false) := by
      show _ = _
      have e : usB n fm d = (fmtsB fm && (netB n && demB n.nodes.length d)) := by unfold usB; cases netB n <;> cases fmtsB fm <;> rfl
      unfold usOk
      rw [e, hdb, Bool.and_false]; rfl
    clear hdb
    go_wp2
    go_ret2
    exact outC_no HNO.out HF5.out
  have hub : usB n fm d = true := by
    have e : usB n fm d = (fmtsB fm && (netB n && demB n.nodes.length d)) := by unfold usB; cases netB n <;> cases fmtsB fm <;> rfl
    rw [e, hdb, HFV.out]; rfl
  have HUB := Lib.hid hub
  have HAT := Lib.hid (usB_at hub)
  clear hdb hub
  have a0 := HR15.out.cell (i := 0) rfl
  have a1 := HR15.out.cell (i := 1) rfl
  have d0 := HR25.out.cell (i := 0) rfl
  have d1 := HR25.out.cell (i := 1) rfl
  have HA := Lib.hid (implAllRoutes_any _ n d.a d.b w5 (HN.out.keep HF5.out))
  go_wp2_with fail
  refine (HA.out).mono ?_
  rintro e w6 ⟨V, l, rfl, hr, hv, hf⟩
  have HF6 := Lib.hid (fstep HF5.out hf)
  have HR16 := Lib.hid (HR15.out.keep hf)
  have HR26 := Lib.hid (HR25.out.keep hf)
  have hle := HF5.out.size
  have HRT := Lib.hid (show Rts w6 w.heap.size V l from ⟨owns_mono hr.row hle, fun x hx => (hr.fib x hx).mono hle, hr.dist, hr.cap⟩)
  have HV := Lib.hid hv
  clear hr hv hf HA a0 a1 d0 d1 hle
  cases hoa : okA n d.a d.b
  · have HNO : Hid (usOk n fm d = false) := by show _ = _; unfold usOk; rw [hoa, Bool.and_false]
    clear hoa
    go_wp2
    go_ret2
    exact outC_no HNO.out HF6.out
  have HOK : Hid (usOk n fm d = true) := by show _ = _; unfold usOk; rw [HUB.out, hoa]; rfl
  have hval : l.map LR.val = allR n d.a d.b := by rw [HV.out]; unfold allA; rw [hoa]; rfl
  have hll : l.length ≤ 200 := by
    have h1 := congrArg List.length hval
    unfold okA at hoa
    simp only [Bool.and_eq_true, decide_eq_true_eq] at hoa
    rw [List.length_map] at h1
    omega
  have HGD : Hid (∀ x ∈ l, RtOk n x.fibs) := fun x hx => rt_ok HAT.out.1 HAT.out.2.2.2.2.2.1 (good_mem (show x.val ∈ allR n d.a d.b by rw [← hval]; exact List.mem_map_of_mem hx)).2
  have HVAL := Lib.hid hval
  have HLB := Lib.hid (net_len HAT.out.1)
  clear hoa hval
  obtain ⟨p, c, rfl, _, _, _⟩ := owns_cap HRT.out.row
  have hf7 : Fresh w6 (w6.alloc (.cells #[] 84)) := fnew (frefl _) _
  have HO0 := Lib.hid (show (w6.alloc (.cells #[] 84)).ownsRow w.heap.size 84 3 (.slice (some ⟨w6.heap.size, 0, none⟩) 0 0) 0 [] from ownsRow_zero (RowAt.new w6 84 []) HF6.out.size)
  have HF7 := Lib.hid (fstep HF6.out hf7)
  have HRT7 := Lib.hid (HRT.out.keep hf7)
  have HR17 := Lib.hid (HR16.out.keep hf7)
  have HR27 := Lib.hid (HR26.out.keep hf7)
  clear hf7
  go_wp2
  go_loopw [10, 39] (fun o i wr => ∃ j : Nat, j ≤ l.length ∧ i = .int .i64 j ∧ wr.ownsRow w.heap.size 84 3 o (chsOf n fm d.len (l.take j)).length ((chsOf n fm d.len (l.take j)).flatMap chC) ∧ Fresh w wr ∧ Rts wr w.heap.size (.slice p l.length c) l ∧ RowAt wr w.heap.size 37 [.slice qn n.nodes.length cn, .slice pn n.fibers.length cp] ∧ RowAt wr (w.heap.size + 1) 41 [.int .i64 d.a, .int .i64 d.b, .int .i64 d.len, .int .i64 d.risk]) (fun _ i _ => l.length - (intOf i).toNat)
  case atStart => exact ⟨0, Nat.zero_le _, rfl, HO0.out, HF7.out, HRT7.out, HR17.out, HR27.out⟩
  case round =>
    obtain ⟨j, hj, rfl, hown, hf, hrt, hrn, hrd⟩ := hrel
    by_cases hlt : j < l.length
    · have hltz : (j : Int) < (l.length : Int) := by omega
      obtain ⟨g, x, rfl, hx, hm, hc0, hc1⟩ := rts_at hrt hlt
      obtain ⟨W3, hW3⟩ : ∃ W, W = wr.alloc (.cells #[.int .i64 x.start, .slice x.q x.fibs.length x.cap] 53) := ⟨_, rfl⟩
      have hf3 : Fresh wr W3 := by rw [hW3]; exact fnew (frefl _) _
      have hr3 : RowAt W3 wr.heap.size 53 [.int .i64 x.start, .slice x.q x.fibs.length x.cap] := by rw [hW3]; exact RowAt.new _ _ _
      have htk : l.take (j + 1) = l.take j ++ [x] := by rw [List.take_add_one, hx]; rfl
      have HO := Lib.hid (ownsRow_keep hown hf3)
      have HF3 := Lib.hid (fstep hf hf3)
      have HRT3 := Lib.hid (hrt.keep hf3)
      have HR1 := Lib.hid (hrn.keep hf3)
      have HR2 := Lib.hid (hrd.keep hf3)
      have HR3 := Lib.hid hr3
      have HTK := Lib.hid htk
      have HX := Lib.hid hm
      have HW3 := Lib.hid hW3
      have hcl := chs_len n fm d.len (l.take j)
      rw [List.length_take, Nat.min_eq_left hj] at hcl
      clear hown hf hrt hrn hrd hx hm hf3 hr3 htk hW3
      go_wp2
      rw [← HW3.out]
      clear hc0 hc1
      have a0 := HR1.out.cell (i := 0) rfl
      have a1 := HR1.out.cell (i := 1) rfl
      have d2 := HR2.out.cell (i := 2) rfl
      have b0 := HR3.out.cell (i := 0) rfl
      have b1 := HR3.out.cell (i := 1) rfl
      have a0w := fun xa : After W3 => akeep a0 xa
      have a1w := fun xa : After W3 => akeep a1 xa
      have d2w := fun xa : After W3 => akeep d2 xa
      have b0w := fun xa : After W3 => akeep b0 xa
      have b1w := fun xa : After W3 => akeep b1 xa
      have HL : Hid (∀ xa : After W3, Calls Tryz.prog 74 #[.agg #[.slice qn n.nodes.length cn, .slice pn n.fibers.length cp], .agg #[.int .i64 x.start, .slice x.q x.fibs.length x.cap]] xa.w' fun e w' => e = .returned (.int .i64 (lenR n.fibers x.fibs)) ∧ Fresh xa.w' w') := fun xa =>
        (lengthOf_d _ n x.start x.q x.cap x.fibs xa.w' ((HN.out.keep HF3.out).keep xa.h) ((HRT3.out.fib x HX.out).ints.keep xa.h) (HGD.out x HX.out) HLB.out).mono fun e w' hh => ⟨hh.1, hh.2.1⟩
      obtain ⟨L, hL⟩ : ∃ L, L = lenR n.fibers x.fibs := ⟨_, rfl⟩
      have hL0 : 0 ≤ L := by rw [hL]; exact (lenR_bd (l := x.fibs) HLB.out).1
      have HSF := Lib.hid (slotsF_all (l := fm) (n := L) (r := d.len) HFV.out hL0 (inB_iff.2 ⟨HAT.out.2.2.2.1, HAT.out.2.2.2.2.1⟩))
      have HUS : Hid (useS n fm d.len x.val = slotsN fm L d.len) := by show _ = _; rw [hL]; rfl
      rw [← hL] at HL
      have HS : Hid (∀ xa : After W3, Calls Tryz.prog 73 #[.slice pf fm.length cf, .int .i64 L, .int .i64 d.len] xa.w' fun e w' => e = .returned (.tuple #[.int .i64 (slotsN fm L d.len), .bool (!(slotsN fm L d.len == 0))]) ∧ Fresh xa.w' w') := fun xa => by
        have := implSlotsFor_any pf cf fm L d.len xa.w' ((HP.out.keep HF3.out).keep xa.h) hfl
        rwa [HSF.out] at this
      obtain ⟨S, hS⟩ : ∃ S, S = slotsN fm L d.len := ⟨_, rfl⟩
      rw [← hS] at HS HUS
      obtain ⟨F, hF⟩ : ∃ F, F = !(S == 0) := ⟨_, rfl⟩
      rw [← hF] at HS
      have HFB := Lib.hid hF
      clear hF
      clear hL hL0 hS
      refine wp_region_after (by kernel_rfl) (by kernel_rfl) ?_
      repeat (go_big_quiet_step (first | (go_at_call 74; exact after_call (HL.out _)) | (go_at_call 73; exact after_call (HS.out _))))
      refine wpQuiet_nil ?_
      rintro _ ⟨xa, rfl⟩
      have hxa := xa.h
      obtain ⟨W8, hW8⟩ : ∃ W, W = xa.w' := ⟨_, rfl⟩
      rw [← hW8] at hxa ⊢
      have HXA := Lib.hid hxa
      have b0' := (HR3.out.keep hxa).cell (i := 0) rfl
      have b1' := (HR3.out.keep hxa).cell (i := 1) rfl
      clear a0w a1w d2w b0w b1w a0 a1 d2 b0 b1 HL HS hxa hW8
      cases F
      · have hz : S = 0 := by have := HFB.out; simpa using this.symm
        clear HFB
        have HNO := Lib.hid (chs_no (n := n) (fm := fm) (r := d.len) (l := l.take j) (x := x) (by rw [HUS.out, hz]))
        clear hz
        go_wp2
        go_roundw
        case rel => exact ⟨j + 1, by omega, by go_num, by rw [HTK.out, HNO.out]; exact ownsRow_keep HO.out HXA.out, fstep HF3.out HXA.out, HRT3.out.keep HXA.out, HR1.out.keep HXA.out, HR2.out.keep HXA.out⟩
        case measure => simp [intOf]; omega
      · have hz : ¬ S = 0 := by have := HFB.out; simpa using this.symm
        clear HFB
        have HYES : Hid (chsOf n fm d.len (l.take j ++ [x]) = chsOf n fm d.len (l.take j) ++ [⟨x, S⟩]) := by show _ = _; rw [chs_yes (by rw [HUS.out]; exact hz), HUS.out]
        clear hz
        obtain ⟨I, hI⟩ : ∃ I, I = chsOf n fm d.len (l.take j) := ⟨_, rfl⟩
        rw [← hI] at hcl HO HYES
        have hown6 := ownsRow_keep HO.out HXA.out
        have HF8 := Lib.hid (fstep HF3.out HXA.out)
        clear hI
        go_wp2_with (at_builtin; refine wpList_app_g Tryz.underlying80 infoCh rfl (by decide) (by decide) w W8 _ I.length (I.flatMap chC) [.int .i64 x.start, .slice x.q x.fibs.length x.cap, .int .i64 S] _ rfl (by intro u hu; simp at hu; rcases hu with rfl | rfl | rfl <;> rfl) rfl _ _ rfl rfl hown6 rfl rfl (by omega) HF8.out ?_; intro v' w' hown3 hf3 hkp)
        have HO3 := Lib.hid hown3
        have HF9 := Lib.hid hf3
        have HK3 := Lib.hid hkp
        clear hown3 hf3 hkp hown6
        go_wp2
        go_roundw
        case rel => exact ⟨j + 1, by omega, by go_num, by rw [HTK.out, HYES.out, List.flatMap_append, List.length_append]; exact HO3.out, HF9.out, (HRT3.out.keep HXA.out).typ HK3.out (by decide) (by decide), HK3.out _ _ _ (HR1.out.keep HXA.out) (by decide), HK3.out _ _ _ (HR2.out.keep HXA.out) (by decide)⟩
        case measure => simp [intOf]; omega
    · have hjn : j = l.length := by omega
      have hltz : ¬ (j : Int) < (l.length : Int) := by omega
      subst hjn
      rw [List.take_length] at hown
      have HO := Lib.hid hown
      have HFF := Lib.hid hf
      have HRT := Lib.hid hrt
      clear hown hf hrt hrn hrd
      go_wp2
      go_ret2
      refine ⟨_, chsOf n fm d.len l, by rw [HOK.out]; (first | done | rfl), ⟨HO.out, fun x hx => ?_, by rw [chs_rs]; exact HRT.out.dist.filter _, fun x hx => ?_⟩, by rw [usF_yes HOK.out, chs_val, HVAL.out], HFF.out⟩
      · obtain ⟨y, hy, rfl⟩ := List.mem_map.1 hx
        exact HRT.out.fib y (List.mem_filter.1 hy).1
      · obtain ⟨y, hy, rfl⟩ := List.mem_map.1 hx
        exact HRT.out.cap y (List.mem_filter.1 hy).1
end Go.Proofs.YtlcppdbpajdnlaaGreat
