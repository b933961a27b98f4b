/- Contracts: the order of routes, both sides; worlds that are what they were, with draws and blocks behind. -/
import Derived.Test.YteckjlkhopkogaaGreatRb
import Derived.Test.YteckjlkhopkogaaGreatU4
import Derived.Sort.Grow
namespace Go.Proofs.YteckjlkhopkogaaGreat
open Go.RowKit Go.PlainAid

/-- What was there is as it was, and no draw is undone. -/
def Laid (w w' : World) : Prop := Fresh w w' ∧ w.drawn ≤ w'.drawn
theorem Laid.refl (w : World) : Laid w w := ⟨frefl w, Nat.le_refl _⟩
theorem Laid.step {w a b : World} (h : Laid w a) (k : Laid a b) : Laid w b := ⟨fstep h.1 k.1, Nat.le_trans h.2 k.2⟩
theorem Laid.new {w a : World} (h : Laid w a) (o : Obj) : Laid w (a.alloc o) := ⟨fnew h.1 o, h.2⟩
theorem Laid.drew {w a : World} (h : Laid w a) : Laid w a.drew := ⟨fdrew h.1, Nat.le_trans h.2 (Nat.le_succ _)⟩
theorem Laid.drewN {w a : World} (h : Laid w a) (n : Nat) : Laid w (a.drewN n) := ⟨fdrewN h.1 n, Nat.le_trans h.2 (Nat.le_add_right _ _)⟩
theorem Laid.grow {w w' : World} (h : Laid w w') : ∃ q os, w' = Go.Sort.grow (w.drewN q) os := by
  obtain ⟨⟨h1, h2, h3, h4, h5⟩, h6⟩ := h
  refine ⟨w'.drawn - w.drawn, (w'.heap.toList.drop w.heap.size).toArray, ?_⟩
  obtain ⟨hp, tp, dr, os, ou⟩ := w'
  obtain ⟨hp0, tp0, dr0, os0, ou0⟩ := w
  simp only at h1 h2 h3 h4 h5 h6 ⊢
  subst h1 h2 h3
  unfold Go.Sort.grow World.drewN
  simp only [World.mk.injEq, and_true, true_and]
  refine ⟨?_, by omega⟩
  apply Array.ext_getElem?
  intro i
  rw [Array.getElem?_append]
  split
  · next hi => exact h5 i hi
  · next hi => simp; congr 1; omega
structure AfterD (w : World) where
  w' : World
  h : Laid w w'
instance (w : World) : Nonempty (AfterD w) := ⟨⟨w, Laid.refl w⟩⟩
theorem wp_region_afterD {P : Program} {id : Nat} {Q : Exit → Act → World → Prop} {a : Act} {w : World} {l : List Oper} (hm : P.follows .mixedOrders = true) (hB : Region.lexB .any l.toArray = true)
    (h : wpQuiet P l.toArray (fun w' => ∃ x : AfterD w, w' = x.w') (fun a' => ∀ w', (∃ x : AfterD w, w' = x.w') → Q .normal a' w') l a) : (Code.region id l.toArray true).wp P Q a w :=
  wp_region_quiet (C := fun w' => ∃ x : AfterD w, w' = x.w') hm hB ⟨⟨_, (Laid.refl _).drew⟩, rfl⟩ (by simpa using h)
theorem after_callD {P : Program} {f : FuncId} {args : Array Value} {w : World} {x : AfterD w} {v : Value} (h : Calls P f args x.w' fun e w' => e = .returned v ∧ Laid x.w' w') :
    Calls P f args x.w' fun e w'' => e = .returned v ∧ ∃ y : AfterD w, w'' = y.w' := h.mono fun _ w' ⟨he, hf⟩ => ⟨he, ⟨w', x.h.step hf⟩, rfl⟩
theorem akeepD {w : World} {b o : Nat} {v : Value} (hv : w.cell? ⟨b, o, none⟩ = some v) (x : AfterD w) : x.w'.cell? ⟨b, o, none⟩ = some v := fkeep x.h.1 hv
theorem wp_region_afterD_tail {P : Program} {id : Nat} {Q : Exit → Act → World → Prop} {a : Act} {w : World} {l : List Oper} (n : Nat) (hm : P.follows .mixedOrders = true) (hB : Region.lexTailB .any l.toArray n = true)
    (h : wpQuiet P l.toArray (fun w' => ∃ x : AfterD w, w' = x.w') (fun a' => ∀ x : AfterD w, wpList P l.toArray Q (l.drop n) a' x.w') (l.take n) a) : (Code.region id l.toArray true).wp P Q a w := by
  simp only [Region.lexTailB, Bool.and_eq_true, decide_eq_true_eq] at hB
  obtain ⟨⟨⟨⟨hsel, hn⟩, hs⟩, hc⟩, hlex⟩ := hB
  have hn' : n < l.length := by simpa using hn
  have htl : (l.take n).length = n := by simp; omega
  have hdl : (l.drop n).length = l.toArray.size - n := by simp
  have inv0 : HeadInv .any l.toArray n (Array.replicate l.toArray.size false) :=
    ⟨by simp, fun j oj _ hl => (by rw [getD_replicate_false] at hl; cases hl), fun t _ ht => getD_in (by simpa using ht) (getD_replicate_false _ _)⟩
  have H := headQ_lex (md := .any) (g := l.toArray.size - n) hsel hs hc hn (l.take n) 0 _ a (fun j hj => by
    have hj' : j < n := by rw [htl] at hj; exact hj
    simp [hj']) (by simpa using htl) inv0 (by rw [htl]; exact hlex) h
  refine wp_region_any hm ?_
  have := any_of_headQ (Q := Q) (g := l.toArray.size - n) (fun listed a' w' hw' hL => by
    obtain ⟨x, rfl⟩ := hw'
    have := wpAny_of_seq (md := .any) (Q' := Q) (l.drop n) n listed a' x.w' (fun j => by simp [List.getElem?_drop]) (by rw [hdl]; exact hL.1) (hL.2 x)
    rwa [hdl] at this) _ _ _ _ (⟨⟨_, (Laid.refl w).drew⟩, rfl⟩ : ∃ x : AfterD w, ({ w with drawn := w.drawn + 1 } : World) = x.w') H
  rw [htl, show n + (l.toArray.size - n) = l.toArray.size by omega] at this
  exact this

/-- Fibers of a network, and how long they are. -/
def RtOk (n : Net) (l : List Int) : Prop := (∀ i ∈ l, 0 ≤ i ∧ i < (n.fibers.length : Int)) ∧ l.length ≤ 1048576
def LenOk (n : Net) : Prop := ∀ f ∈ n.fibers, 0 ≤ f.len ∧ f.len ≤ 5000
theorem lenR_bd {n : Net} {l : List Int} (hb : LenOk n) : 0 ≤ lenR n.fibers l ∧ lenR n.fibers l ≤ 5000 * (l.length : Int) := by
  unfold lenR
  induction l with
  | nil => simp
  | cons i l ih =>
    rw [List.map_cons, List.sum_cons, List.length_cons]
    have : 0 ≤ ((n.fibers[i.toNat]?).map Fib.len).getD 0 ∧ ((n.fibers[i.toNat]?).map Fib.len).getD 0 ≤ 5000 := by
      cases hf : n.fibers[i.toNat]? with
      | none => simp
      | some f => simpa using hb f (List.mem_of_getElem? hf)
    omega
set_option maxHeartbeats 4000000 in
theorem lengthOf_d (v : Value) (n : Net) (s : Int) (q : Option Addr) (cap : Nat) (l : List Int) (w : World) (h : NetIn w v n) (hI : Ints w q l) (hv : RtOk n l) (hb : LenOk n) :
    Calls Tryz.prog 166 #[v, .agg #[.int .i64 s, .slice q l.length cap]] w fun e w' => e = .returned (.int .i64 (lenR n.fibers l)) ∧ Laid w w' := by
  obtain ⟨qn, c, p, d, rfl, _, hF, _, n2, _, _, _⟩ := h
  obtain ⟨W2, hW2, hsz2, hf2, r1, r2⟩ := two_rows w [.slice qn n.nodes.length c, .slice p n.fibers.length d] [.int .i64 s, .slice q l.length cap] 35 90
  have HLD : Hid (Laid w W2) := by show Laid _ _; rw [hW2]; exact ((Laid.refl w).new _).new _
  have y1 := r1.cell (i := 1) rfl
  have HI := Lib.hid (hI.keep hf2)
  have HF := Lib.hid (hF.keep hf2)
  have HB := Lib.hid hb
  have HV := Lib.hid hv.1
  have hn := hv.2
  have HW2 := Lib.hid hW2
  clear hI hF hb hv hf2 r1 r2 hW2
  go_enter Tryz.func166, Tryz.ntmps166
  go_wp2
  rw [← HW2.out]
  go_loop [5, 11] (fun a j => ∃ k : Nat, k ≤ l.length ∧ j = .int .i64 k ∧ a = .int .i64 (lenR n.fibers (l.take k))) (fun _ j => l.length - (intOf j).toNat)
  case atStart => exact ⟨0, Nat.zero_le _, rfl, rfl⟩
  case round =>
    obtain ⟨k, hk, rfl, rfl⟩ := hrel
    by_cases hlt : k < l.length
    · have hltz : (k : Int) < (l.length : Int) := by omega
      obtain ⟨b, off, x, rfl, hx, hc0⟩ := HI.out.at hlt
      obtain ⟨hx0, hx1⟩ := HV.out x (List.mem_of_getElem? hx)
      obtain ⟨i, rfl⟩ : ∃ i : Nat, x = (i : Int) := ⟨x.toNat, by omega⟩
      have hil : i < n.fibers.length := by omega
      obtain ⟨b1, o1, fa, fb, fl, fr, rfl, hf, _, _, d2, _⟩ := HF.out.at hil
      have HST := Lib.hid (lenR_step (F := n.fibers) hx (f := ⟨fa, fb, fl, fr⟩) (by simpa using hf))
      obtain ⟨g1, g2⟩ := HB.out _ (List.mem_of_getElem? hf)
      have h12 := lenR_bd (l := l.take k) HB.out
      rw [List.length_take, Nat.min_eq_left hk] at h12
      obtain ⟨h1, h2⟩ := h12
      obtain ⟨S, hS⟩ : ∃ S, S = lenR n.fibers (l.take k) := ⟨_, rfl⟩
      rw [← hS] at h1 h2 HST ⊢
      simp only at g1 g2
      clear hx hf hS
      go_wp2
      go_round
      case rel => exact ⟨k + 1, by omega, by go_num, by rw [HST.out]⟩
      case measure => simp [intOf]; omega
    · have hkn : k = l.length := by omega
      subst hkn
      have hltz : ¬ ((l.length : Nat) : Int) < (l.length : Int) := by omega
      go_wp2
      go_ret
      exact ⟨by simp, HLD.out⟩
set_option maxHeartbeats 4000000 in
theorem compareI_d (p q : Option Addr) (c d : Nat) (a b : List Int) (w : World) (ha : Ints w p a) (hb : Ints w q b) (na : a.length ≤ 1048576) (_nb : b.length ≤ 1048576) :
    Calls Tryz.prog 235 #[.slice p a.length c, .slice q b.length d] w fun e w' => e = .returned (.int .i64 (lexC a b)) ∧ w = w' := by
  obtain ⟨r, hr⟩ : ∃ r, r = lexC a b := ⟨_, rfl⟩
  rw [← hr]
  have HR := Lib.hid hr
  have HA := Lib.hid ha
  have HB := Lib.hid hb
  clear ha hb hr
  go_enter Tryz.func235, Tryz.ntmps235
  go_wp2
  go_loop [11] (fun j => ∃ k : Nat, k ≤ a.length ∧ k ≤ b.length ∧ j = .int .i64 k ∧ r = lexC (a.drop k) (b.drop k)) (fun j => a.length - (intOf j).toNat)
  case atStart => exact ⟨0, Nat.zero_le _, Nat.zero_le _, rfl, HR.out⟩
  case round =>
    obtain ⟨k, hk, hkb, rfl, hl⟩ := hrel
    have HL := Lib.hid hl
    clear hl
    by_cases hlt : k < a.length
    · have hltz : (k : Int) < (a.length : Int) := by omega
      obtain ⟨b1, o1, x, rfl, hx, c0⟩ := HA.out.at hlt
      have eA : a.drop k = x :: a.drop (k + 1) := by
        obtain ⟨e1, e2⟩ := List.getElem?_eq_some_iff.1 hx
        rw [← e2]; exact (List.getElem_cons_drop (h := e1)).symm
      by_cases hbl : k < b.length
      · have hblz : ¬ (b.length : Int) ≤ (k : Int) := by omega
        obtain ⟨b2, o2, y, rfl, hy, c1⟩ := HB.out.at hbl
        have eB : b.drop k = y :: b.drop (k + 1) := by
          obtain ⟨e1, e2⟩ := List.getElem?_eq_some_iff.1 hy
          rw [← e2]; exact (List.getElem_cons_drop (h := e1)).symm
        have hbz : (k : Int) < (b.length : Int) := by omega
        have HS : Hid (r = if cmpI x y ≠ 0 then cmpI x y else lexC (a.drop (k + 1)) (b.drop (k + 1))) := by show _ = _; rw [HL.out, eA, eB]; rfl
        have HCC := Lib.hid (compare_any x y w)
        obtain ⟨cc, hcc⟩ : ∃ cc, cc = cmpI x y := ⟨_, rfl⟩
        rw [← hcc] at HS HCC
        clear hx hy eA eB hcc
        by_cases hz : cc = 0
        · have hz1 : (cc != 0) = false := by simp [hz]
          have HS2 : Hid (r = lexC (a.drop (k + 1)) (b.drop (k + 1))) := by show _ = _; rw [HS.out, if_neg (by simp [hz])]
          clear hz
          go_wp2_with fail
          refine (HCC.out).mono ?_
          rintro e w1 ⟨rfl, rfl⟩
          go_wp2
          go_round
          case rel => exact ⟨k + 1, by omega, by omega, by go_num, HS2.out⟩
          case measure => simp [intOf]; omega
        · have hz1 : (cc != 0) = true := by simp [hz]
          have HS2 : Hid (r = cc) := by show _ = _; rw [HS.out, if_pos hz]
          clear hz
          go_wp2_with fail
          refine (HCC.out).mono ?_
          rintro e w1 ⟨rfl, rfl⟩
          go_wp2
          go_ret
          exact ⟨by rw [HS2.out]; (first | done | rfl), rfl⟩
      · have hblz : (b.length : Int) ≤ (k : Int) := by omega
        have eB : b.drop k = [] := List.drop_of_length_le (by omega)
        have HE : Hid (r = 1) := by show _ = _; rw [HL.out, eA, eB]; rfl
        clear hx eA eB
        go_wp2
        go_ret
        exact ⟨by rw [HE.out]; (first | done | rfl), rfl⟩
    · have hkn : k = a.length := by omega
      subst hkn
      have hltz : ¬ ((a.length : Nat) : Int) < (a.length : Int) := by omega
      by_cases hbl : a.length < b.length
      · have hz : (a.length : Int) < (b.length : Int) := by omega
        have HE : Hid (r = -1) := by
          show _ = _
          rw [HL.out, List.drop_of_length_le (Nat.le_refl _)]
          cases e : b.drop a.length with
          | nil => have := congrArg List.length e; simp at this; omega
          | cons y t => rfl
        go_wp2
        go_ret
        exact ⟨by rw [HE.out]; (first | done | rfl), rfl⟩
      · have hz : ¬ (a.length : Int) < (b.length : Int) := by omega
        have HE : Hid (r = 0) := by show _ = _; rw [HL.out, List.drop_of_length_le (Nat.le_refl _), List.drop_of_length_le (by omega)]; rfl
        go_wp2
        go_ret
        exact ⟨by rw [HE.out]; (first | done | rfl), rfl⟩
set_option maxHeartbeats 4000000 in
set_option maxRecDepth 100000 in
theorem compareRoutes_d (v : Value) (n : Net) (x y : LR) (w : World) (h : NetIn w v n) (hx : Ints w x.q x.fibs) (hy : Ints w y.q y.fibs) (vx : RtOk n x.fibs) (vy : RtOk n y.fibs) (hb : LenOk n) :
    Calls Tryz.prog 216 #[v, lrV x, lrV y] w fun e w' => e = .returned (.int .i64 (cmpR n.fibers x.val y.val)) ∧ Laid w w' := by
  have HN := Lib.hid h
  obtain ⟨qn, m, c, p, k, d, rfl⟩ := h.shape
  obtain ⟨sx, qx, cx, fx⟩ := x
  obtain ⟨sy, qy, cy, fy⟩ := y
  simp only at hx hy vx vy ⊢
  obtain ⟨W3, hW3, hsz3, hf3, r1, r2, r3⟩ := three_rows w [.slice qn m c, .slice p k d] [.int .i64 sx, .slice qx fx.length cx] [.int .i64 sy, .slice qy fy.length cy] 35 90 90
  have HLD : Hid (Laid w W3) := by show Laid _ _; rw [hW3]; exact (((Laid.refl w).new _).new _).new _
  have HN3 := Lib.hid (HN.out.keep hf3)
  have HX3 := Lib.hid (hx.keep hf3)
  have HY3 := Lib.hid (hy.keep hf3)
  have hnx := vx.2
  have hny := vy.2
  have k0 := fun xa : AfterD W3 => akeepD (r1.cell (i := 0) rfl) xa
  have k1 := fun xa : AfterD W3 => akeepD (r1.cell (i := 1) rfl) xa
  have x0 := fun xa : AfterD W3 => akeepD (r2.cell (i := 0) rfl) xa
  have x1 := fun xa : AfterD W3 => akeepD (r2.cell (i := 1) rfl) xa
  have y0 := fun xa : AfterD W3 => akeepD (r3.cell (i := 0) rfl) xa
  have y1 := fun xa : AfterD W3 => akeepD (r3.cell (i := 1) rfl) xa
  have HL1 : Hid (∀ xa : AfterD W3, Calls Tryz.prog 166 #[.agg #[.slice qn m c, .slice p k d], .agg #[.int .i64 sx, .slice qx fx.length cx]] xa.w' fun e w' => e = .returned (.int .i64 (lenR n.fibers fx)) ∧ Laid xa.w' w') := fun xa => lengthOf_d _ n sx qx cx fx xa.w' (HN3.out.keep xa.h.1) (HX3.out.keep xa.h.1) vx hb
  have HL2 : Hid (∀ xa : AfterD W3, Calls Tryz.prog 166 #[.agg #[.slice qn m c, .slice p k d], .agg #[.int .i64 sy, .slice qy fy.length cy]] xa.w' fun e w' => e = .returned (.int .i64 (lenR n.fibers fy)) ∧ Laid xa.w' w') := fun xa => lengthOf_d _ n sy qy cy fy xa.w' (HN3.out.keep xa.h.1) (HY3.out.keep xa.h.1) vy hb
  have HCI : Hid (∀ (a b : Int) (xa : AfterD W3), Calls Tryz.prog 134 #[.int .i64 a, .int .i64 b] xa.w' fun e w' => e = .returned (.int .i64 (cmpI a b)) ∧ Laid xa.w' w') := fun a b xa => (compare_any a b xa.w').mono fun e w' ⟨h1, h2⟩ => ⟨h1, by rw [h2]; exact Laid.refl _⟩
  have HLX : Hid (∀ xa : AfterD W3, Calls Tryz.prog 235 #[.slice qx fx.length cx, .slice qy fy.length cy] xa.w' fun e w' => e = .returned (.int .i64 (lexC fx fy)) ∧ Laid xa.w' w') := fun xa => (compareI_d qx qy cx cy fx fy xa.w' (HX3.out.keep xa.h.1) (HY3.out.keep xa.h.1) hnx hny).mono fun e w' ⟨h1, h2⟩ => ⟨h1, by rw [h2]; exact Laid.refl _⟩
  have HW3 := Lib.hid hW3
  clear h hx hy vx vy hb hf3 r1 r2 r3 hW3
  go_enter Tryz.func216, Tryz.ntmps216
  go_wp2
  rw [← HW3.out]
  refine wp_region_afterD_tail 24 (by kernel_rfl) (by kernel_rfl) ?_
  simp only [List.take_succ_cons, List.take_zero, List.drop_succ_cons, List.drop_zero]
  repeat (go_big_quiet_step ((first | (go_at_call 166; (first | with_reducible exact after_callD (HL1.out _) | with_reducible exact after_callD (HL2.out _))) | (go_at_call 235; exact after_callD (HLX.out _)) | (go_at_call 134; exact after_callD (HCI.out _ _ _)))))
  refine wpQuiet_nil ?_
  intro xa
  clear k0 k1 x0 x1 y0 y1
  have HXA := Lib.hid xa.h
  obtain ⟨CL, hCL⟩ : ∃ L, L = [cmpI (lenR n.fibers fx) (lenR n.fibers fy), cmpI (fx.length : Int) (fy.length : Int), lexC fx fy, cmpI sx sy] := ⟨_, rfl⟩
  have HRES : Hid (orL CL = cmpR n.fibers (sx, fx) (sy, fy)) := by show _ = _; rw [hCL]; rfl
  have HOR : Hid (∀ w3 : World, Calls Tryz.prog 186 #[.slice (some ⟨w3.heap.size, 0, none⟩) 4 4] (w3.alloc (.cells (CL.map iv).toArray 3)) fun e w' => e = .returned (.int .i64 (orL CL)) ∧ (w3.alloc (.cells (CL.map iv).toArray 3)) = w') := by
    intro w3
    have h4 : CL.length = 4 := by rw [hCL]; rfl
    have := or_any (some ⟨w3.heap.size, 0, none⟩) 4 CL (w3.alloc (.cells (CL.map iv).toArray 3)) (RowAt.new w3 3 (CL.map iv)).cells (by omega)
    rwa [h4] at this
  rw [hCL] at HOR
  simp only [List.map_cons, List.map_nil] at HOR
  go_wp2_with fail
  refine (HOR.out _).mono ?_
  rintro e w' ⟨rfl, rfl⟩
  rw [← hCL, HRES.out]
  clear hCL
  go_wp2
  go_ret
  exact ⟨rfl, (HLD.out.step HXA.out).new _⟩
end Go.Proofs.YteckjlkhopkogaaGreat
