/- Contracts: a fiber's line is read, the program's side (printed by gen_pb2.py). -/
import Derived.Test.YtjhaoonacjebpaaGreatDoorPb
import Derived.Deep.RegionHeld3
namespace Go.Proofs.YtjhaoonacjebpaaGreatDoor
open Go.RowKit Go.PlainAid

theorem keepcX {w w1 w2 : World} {b0 o0 b1 o1 : Nat} {v0 v1 : Value} (h : Fresh w w1 ∧ w1.cell? ⟨b0, o0, none⟩ = some v0 ∧ w1.cell? ⟨b1, o1, none⟩ = some v1) (hb : Fresh w1 w2) : Fresh w w2 ∧ w2.cell? ⟨b0, o0, none⟩ = some v0 ∧ w2.cell? ⟨b1, o1, none⟩ = some v1 := ⟨fstep h.1 hb, fkeep hb h.2.1, fkeep hb h.2.2⟩
theorem strs_row {w : World} {base : Nat} {v : Value} {P : List (List UInt8)} (h : w.ownsRow base 9 1 v P.length (strs P)) (h0 : 0 < P.length) : ∃ g c, v = .slice (some ⟨g, 0, none⟩) P.length c ∧ ∀ (k : Nat) (x : List UInt8), P[k]? = some x → w.cell? ⟨g, k, none⟩ = some (.string (ba x)) := by
  obtain ⟨x, hx⟩ : ∃ x, P[0]? = some x := ⟨P[0], List.getElem?_eq_getElem h0⟩
  obtain ⟨g, c, hv, _, _⟩ := strs_cell h hx
  refine ⟨g, c, hv, fun k y hy => ?_⟩
  obtain ⟨g', c', hv', _, hc⟩ := strs_cell h hy
  rw [hv] at hv'
  cases hv'
  exact hc
theorem four_of {P : List (List UInt8)} (h : P.length = 4) : ∃ x0 x1 x2 x3, P = [x0, x1, x2, x3] := by
  match P, h with
  | [a, b, c, d], _ => exact ⟨a, b, c, d, rfl⟩
theorem six_of {P : List (List UInt8)} (h : P.length = 6) : ∃ x0 x1 x2 x3 x4 x5, P = [x0, x1, x2, x3, x4, x5] := by
  match P, h with
  | [a, b, c, d, e, f], _ => exact ⟨a, b, c, d, e, f, rfl⟩
set_option maxHeartbeats 4000000 in
set_option maxRecDepth 20000 in
theorem readFiber_any (qn pn : Option Addr) (cn N cp : Nat) (nodes : List ByteArray) (s : ByteArray) (w : World) (hI : Strs w qn nodes) (hn : nodes.length ≤ 1048576) (hs : s.size ≤ 1048576) (hT : TabE w) (hS : SynE w) (hM : MaxE w) :
    Calls Tryz.prog 66 #[.agg #[.slice qn nodes.length cn, .slice pn N cp], .string s] w (OutRf nodes (bs s) w) := by
  obtain ⟨W2, hW2, hsz2, hf2, r1, r2⟩ := two_rows w [.slice qn nodes.length cn, .slice pn N cp] [.int .i64 0, .int .i64 0, .int .i64 0, .int .i64 0] 34 96
  have HSP := Lib.hid (split_any s 32 W2 hs (hM.keep hf2))
  have HI := Lib.hid (hI.keep hf2)
  have HT := Lib.hid (hT.keep hf2)
  have HS := Lib.hid (hS.keep hf2)
  have HF2 := Lib.hid hf2
  have HR1 := Lib.hid r1
  have HR2 := Lib.hid r2
  have HW2 := Lib.hid hW2
  obtain ⟨bN, hbN⟩ : ∃ b, b = w.heap.size := ⟨_, rfl⟩
  obtain ⟨bZ, hbZ⟩ : ∃ b, b = w.heap.size + 1 := ⟨_, rfl⟩
  rw [← hbN] at HR1
  rw [← hbZ] at HR2
  have HBN := Lib.hid hbN
  have HBZ := Lib.hid hbZ
  have hlo : w.heap.size ≤ bZ := by omega
  clear hW2 hsz2 hf2 r1 r2 hI hT hS hM hbN hbZ
  go_enter Tryz.func66, Tryz.ntmps66
  go_upto_region 1 with fail
  rw [← HW2.out, ← HBZ.out, ← HBN.out]
  go_wp2_with fail
  refine (HSP.out).mono ?_
  rintro e w3 ⟨v, rfl, ho, hf3⟩
  obtain ⟨P, hP⟩ : ∃ P, P = splitC 32 (bs s) := ⟨_, rfl⟩
  rw [← hP] at ho
  have hp0 : 0 < P.length := by rw [hP]; exact Nat.pos_of_ne_zero fun h => splitC_ne 32 (bs s) (List.eq_nil_of_length_eq_zero h)
  obtain ⟨gw, cw, rfl, hcell⟩ := strs_row ho hp0
  have HF3 := Lib.hid hf3
  have HCE := Lib.hid hcell
  have HP := Lib.hid hP
  clear hf3 ho hcell hp0 HSP hP
  by_cases h4 : P.length = 4
  · skip
    obtain ⟨x0, x1, x2, x3, hx⟩ := four_of h4
    subst hx
    rw [show [x0, x1, x2, x3].length = 4 from rfl]
    have HIX : Hid (∀ (x : ByteArray) W, Fresh W2 W → Calls Tryz.prog 113 #[.slice qn nodes.length cn, .string x] W (OutIdx nodes x W)) := fun x W hW => indexOf_any qn cn nodes x W (HI.out.keep hW) hn
    have HPI : Hid (∀ (x : ByteArray) W, Fresh W2 W → Calls Tryz.prog 69 #[.string x] W (OutNum x W)) := fun x W hW => parseInt_any x W (HT.out.keep hW) (HS.out.keep hW)
    have g1 := HCE.out 1 x1 rfl
    have g2 := HCE.out 2 x2 rfl
    have g3 := HCE.out 3 x3 rfl
    have c0 := (HR1.out.keep HF3.out).cell (i := 0) rfl
    clear h4 HI HT HS
    go_upto_region 4 with fail
    have HSS : Fresh w3 w3 ∧ w3.cell? ⟨bN, 0, none⟩ = some (.slice qn nodes.length cn) ∧ w3.cell? ⟨gw, 1, none⟩ = some (.string (ba x1)) := ⟨frefl _, c0, g1⟩
    go_region_held3 (fun w' => Fresh w3 w' ∧ w'.cell? ⟨bN, 0, none⟩ = some (.slice qn nodes.length cn) ∧ w'.cell? ⟨gw, 1, none⟩ = some (.string (ba x1)))
      (first | assumption | exact keepcX (by assumption) (by assumption) | exact keepcX (by assumption) (fdrew (frefl _)) | exact keepcX (by assumption) (frefl _))
      ((go_at_call 113; refine (HIX.out _ _ (fstep HF3.out (And.left (by assumption)))).mono ?_; rintro e w4 ⟨i1, b1, rfl, hbb, -, -, p1, q1⟩))
    have hf4 : Fresh w3 w4 := fstep (fdrew (frefl _)) hbb
    have HF4 := Lib.hid (fstep HF3.out hf4)
    replace c0 := fkeep hf4 c0
    replace g2 := fkeep hf4 g2
    replace g3 := fkeep hf4 g3
    have HP1 := Lib.hid p1
    have HQ1 := Lib.hid q1
    clear hbb HSS g1 hf4 p1 q1
    go_upto_region 5 with fail
    have HSS : Fresh w4 w4 ∧ w4.cell? ⟨bN, 0, none⟩ = some (.slice qn nodes.length cn) ∧ w4.cell? ⟨gw, 2, none⟩ = some (.string (ba x2)) := ⟨frefl _, c0, g2⟩
    go_region_held3 (fun w' => Fresh w4 w' ∧ w'.cell? ⟨bN, 0, none⟩ = some (.slice qn nodes.length cn) ∧ w'.cell? ⟨gw, 2, none⟩ = some (.string (ba x2)))
      (first | assumption | exact keepcX (by assumption) (by assumption) | exact keepcX (by assumption) (fdrew (frefl _)) | exact keepcX (by assumption) (frefl _))
      ((go_at_call 113; refine (HIX.out _ _ (fstep HF4.out (And.left (by assumption)))).mono ?_; rintro e w5 ⟨i2, b2, rfl, hbb, -, -, p2, q2⟩))
    have hf5 : Fresh w4 w5 := fstep (fdrew (frefl _)) hbb
    have HF5 := Lib.hid (fstep HF4.out hf5)
    replace g3 := fkeep hf5 g3
    have HP2 := Lib.hid p2
    have HQ2 := Lib.hid q2
    clear hbb HSS g2 hf5 p2 q2 c0
    go_wp2_with fail
    refine (HPI.out _ _ HF5.out).mono ?_
    rintro e w6 ⟨rfl, hf6⟩
    have HF6 := Lib.hid (fstep HF5.out hf6)
    obtain ⟨n3, hn3⟩ : ∃ n, n = (numF (bs (ba x3))).getD 0 := ⟨_, rfl⟩
    obtain ⟨b3, hb3⟩ : ∃ n, n = (numF (bs (ba x3))).isSome := ⟨_, rfl⟩
    rw [← hn3, ← hb3]
    have HALL : Hid (∀ M : Net, netB M = true → M.nodes = nodes → ∀ g ∈ M.fibers, fibL nodes g = bs s → b1 = true ∧ b2 = true ∧ b3 = true ∧ g = ⟨i1, i2, n3, 0⟩) := fun M h1 h2 g hg h3 => by
      obtain ⟨e1, e2, e3, e4, e5, e6⟩ := fib_four HP.out.symm h1 h2 hg h3
      obtain ⟨r1, r2⟩ := idx_ok HP1.out HQ1.out e1 e3
      obtain ⟨r3, r4⟩ := idx_ok HP2.out HQ2.out e2 e4
      have e5' : numF (bs (ba x3)) = some g.len := by rw [bs_ba]; exact e5
      refine ⟨r1, r3, by rw [hb3, e5']; rfl, ?_⟩
      rw [r2, r4, hn3, e5', ← e6]
      rfl
    clear hf6 g3 hn3 hb3 HP1 HQ1 HP2 HQ2 HIX HPI
    obtain ⟨W7, hW7⟩ : ∃ W, W = w6.alloc (.cells #[.int .i64 i1, .int .i64 i2, .int .i64 n3, .int .i64 0] 96) := ⟨_, rfl⟩
    obtain ⟨bF, hbF⟩ : ∃ b, b = w6.heap.size := ⟨_, rfl⟩
    have hf7 : Fresh w6 W7 := by rw [hW7]; exact fnew (frefl _) _
    have hloF : w.heap.size ≤ bF := by rw [hbF]; exact (fstep HF2.out HF6.out).size
    have hzF : bZ < bF := by rw [hbF]; exact (HR2.out.keep HF6.out).lt
    have HRF : Hid (RowAt W7 bF 96 [.int .i64 i1, .int .i64 i2, .int .i64 n3, .int .i64 0]) := by show RowAt _ _ _ _; rw [hW7, hbF]; exact RowAt.new _ _ _
    have HRZ := Lib.hid (HR2.out.keep (fstep HF6.out hf7))
    have HF7 := Lib.hid (fstep HF2.out (fstep HF6.out hf7))
    have HW7 := Lib.hid hW7
    have HBF := Lib.hid hbF
    clear hf7 hW7 hbF
    have l6 : (((4 : Nat) : Int) == 6) = false := by decide
    go_upto_region 8 with fail
    rw [← HBF.out, ← HW7.out]
    have d0 := HRF.out.cell (i := 0) rfl
    have d1 := HRF.out.cell (i := 1) rfl
    have d2 := HRF.out.cell (i := 2) rfl
    have d3 := HRF.out.cell (i := 3) rfl
    have z0 := HRZ.out.cell (i := 0) rfl
    have y0 := HRZ.out.frozen 0
    have z1 := HRZ.out.cell (i := 1) rfl
    have y1 := HRZ.out.frozen 1
    have z2 := HRZ.out.cell (i := 2) rfl
    have y2 := HRZ.out.frozen 2
    have z3 := HRZ.out.cell (i := 3) rfl
    have y3 := HRZ.out.frozen 3
    have hfin := ((((HRZ.out.set 0 (.int .i64 i1)).set 1 (.int .i64 i2)).set 2 (.int .i64 n3)).set 3 (.int .i64 0))
    have k0 := hfin.cell (i := 0) rfl
    have k1 := hfin.cell (i := 1) rfl
    have k2 := hfin.cell (i := 2) rfl
    have k3 := hfin.cell (i := 3) rfl
    have HFF := Lib.hid (fset (fset (fset (fset HF7.out hlo (o := 0) (.int .i64 i1)) hlo (o := 1) (.int .i64 i2)) hlo (o := 2) (.int .i64 n3)) hlo (o := 3) (.int .i64 0))
    clear hfin
    cases b1 with
    | false =>
      go_wp2
      refine bodyPost_ret (v := .tuple #[.agg #[.int .i64 i1, .int .i64 i2, .int .i64 n3, .int .i64 0], .bool false]) (by simp [results, Tryz.results66, go_sem, k0, k1, k2, k3]) rfl ?_
      exact ⟨_, _, _, _, _, rfl, HFF.out, fun M h1 h2 g hg h3 => by obtain ⟨e1, e2, e3, e4⟩ := HALL.out M h1 h2 g hg h3; first | exact ⟨rfl, e4⟩ | (cases e1; done) | (cases e2; done) | (cases e3; done)⟩
    | true =>
      cases b2 with
      | false =>
        go_wp2
        refine bodyPost_ret (v := .tuple #[.agg #[.int .i64 i1, .int .i64 i2, .int .i64 n3, .int .i64 0], .bool false]) (by simp [results, Tryz.results66, go_sem, k0, k1, k2, k3]) rfl ?_
        exact ⟨_, _, _, _, _, rfl, HFF.out, fun M h1 h2 g hg h3 => by obtain ⟨e1, e2, e3, e4⟩ := HALL.out M h1 h2 g hg h3; first | exact ⟨rfl, e4⟩ | (cases e1; done) | (cases e2; done) | (cases e3; done)⟩
      | true =>
        cases b3 with
        | false =>
          go_wp2
          refine bodyPost_ret (v := .tuple #[.agg #[.int .i64 i1, .int .i64 i2, .int .i64 n3, .int .i64 0], .bool false]) (by simp [results, Tryz.results66, go_sem, k0, k1, k2, k3]) rfl ?_
          exact ⟨_, _, _, _, _, rfl, HFF.out, fun M h1 h2 g hg h3 => by obtain ⟨e1, e2, e3, e4⟩ := HALL.out M h1 h2 g hg h3; first | exact ⟨rfl, e4⟩ | (cases e1; done) | (cases e2; done) | (cases e3; done)⟩
        | true =>
          go_wp2
          refine bodyPost_ret (v := .tuple #[.agg #[.int .i64 i1, .int .i64 i2, .int .i64 n3, .int .i64 0], .bool true]) (by simp [results, Tryz.results66, go_sem, k0, k1, k2, k3]) rfl ?_
          exact ⟨_, _, _, _, _, rfl, HFF.out, fun M h1 h2 g hg h3 => by obtain ⟨e1, e2, e3, e4⟩ := HALL.out M h1 h2 g hg h3; first | exact ⟨rfl, e4⟩ | (cases e1; done) | (cases e2; done) | (cases e3; done)⟩
  · by_cases h6 : P.length = 6
    · skip
      obtain ⟨x0, x1, x2, x3, x4, x5, hx⟩ := six_of h6
      subst hx
      rw [show [x0, x1, x2, x3, x4, x5].length = 6 from rfl]
      have HIX : Hid (∀ (x : ByteArray) W, Fresh W2 W → Calls Tryz.prog 113 #[.slice qn nodes.length cn, .string x] W (OutIdx nodes x W)) := fun x W hW => indexOf_any qn cn nodes x W (HI.out.keep hW) hn
      have HPI : Hid (∀ (x : ByteArray) W, Fresh W2 W → Calls Tryz.prog 69 #[.string x] W (OutNum x W)) := fun x W hW => parseInt_any x W (HT.out.keep hW) (HS.out.keep hW)
      have g1 := HCE.out 1 x1 rfl
      have g2 := HCE.out 2 x2 rfl
      have g3 := HCE.out 3 x3 rfl
      have g5 := HCE.out 5 x5 rfl
      have c0 := (HR1.out.keep HF3.out).cell (i := 0) rfl
      clear h6 HI HT HS
      go_upto_region 4 with fail
      have HSS : Fresh w3 w3 ∧ w3.cell? ⟨bN, 0, none⟩ = some (.slice qn nodes.length cn) ∧ w3.cell? ⟨gw, 1, none⟩ = some (.string (ba x1)) := ⟨frefl _, c0, g1⟩
      go_region_held3 (fun w' => Fresh w3 w' ∧ w'.cell? ⟨bN, 0, none⟩ = some (.slice qn nodes.length cn) ∧ w'.cell? ⟨gw, 1, none⟩ = some (.string (ba x1)))
        (first | assumption | exact keepcX (by assumption) (by assumption) | exact keepcX (by assumption) (fdrew (frefl _)) | exact keepcX (by assumption) (frefl _))
        ((go_at_call 113; refine (HIX.out _ _ (fstep HF3.out (And.left (by assumption)))).mono ?_; rintro e w4 ⟨i1, b1, rfl, hbb, -, -, p1, q1⟩))
      have hf4 : Fresh w3 w4 := fstep (fdrew (frefl _)) hbb
      have HF4 := Lib.hid (fstep HF3.out hf4)
      replace c0 := fkeep hf4 c0
      replace g2 := fkeep hf4 g2
      replace g3 := fkeep hf4 g3
      replace g5 := fkeep hf4 g5
      have HP1 := Lib.hid p1
      have HQ1 := Lib.hid q1
      clear hbb HSS g1 hf4 p1 q1
      go_upto_region 5 with fail
      have HSS : Fresh w4 w4 ∧ w4.cell? ⟨bN, 0, none⟩ = some (.slice qn nodes.length cn) ∧ w4.cell? ⟨gw, 2, none⟩ = some (.string (ba x2)) := ⟨frefl _, c0, g2⟩
      go_region_held3 (fun w' => Fresh w4 w' ∧ w'.cell? ⟨bN, 0, none⟩ = some (.slice qn nodes.length cn) ∧ w'.cell? ⟨gw, 2, none⟩ = some (.string (ba x2)))
        (first | assumption | exact keepcX (by assumption) (by assumption) | exact keepcX (by assumption) (fdrew (frefl _)) | exact keepcX (by assumption) (frefl _))
        ((go_at_call 113; refine (HIX.out _ _ (fstep HF4.out (And.left (by assumption)))).mono ?_; rintro e w5 ⟨i2, b2, rfl, hbb, -, -, p2, q2⟩))
      have hf5 : Fresh w4 w5 := fstep (fdrew (frefl _)) hbb
      have HF5 := Lib.hid (fstep HF4.out hf5)
      replace g3 := fkeep hf5 g3
      replace g5 := fkeep hf5 g5
      have HP2 := Lib.hid p2
      have HQ2 := Lib.hid q2
      clear hbb HSS g2 hf5 p2 q2 c0
      go_wp2_with fail
      refine (HPI.out _ _ HF5.out).mono ?_
      rintro e w6 ⟨rfl, hf6⟩
      have HF6 := Lib.hid (fstep HF5.out hf6)
      replace g5 := fkeep hf6 g5
      obtain ⟨n3, hn3⟩ : ∃ n, n = (numF (bs (ba x3))).getD 0 := ⟨_, rfl⟩
      obtain ⟨b3, hb3⟩ : ∃ n, n = (numF (bs (ba x3))).isSome := ⟨_, rfl⟩
      rw [← hn3, ← hb3]
      obtain ⟨n5, hn5⟩ : ∃ n, n = (numF (bs (ba x5))).getD 0 := ⟨_, rfl⟩
      obtain ⟨b5, hb5⟩ : ∃ n, n = (numF (bs (ba x5))).isSome := ⟨_, rfl⟩
      have HALL0 : Hid (∀ M : Net, netB M = true → M.nodes = nodes → ∀ g ∈ M.fibers, fibL nodes g = bs s → b1 = true ∧ b2 = true ∧ (b3 && b5) = true ∧ g = ⟨i1, i2, n3, n5⟩) := fun M h1 h2 g hg h3 => by
        obtain ⟨e1, e2, e3, e4, e5, e6, _, _⟩ := fib_six HP.out.symm h1 h2 hg h3
        obtain ⟨r1, r2⟩ := idx_ok HP1.out HQ1.out e1 e3
        obtain ⟨r3, r4⟩ := idx_ok HP2.out HQ2.out e2 e4
        have e5' : numF (bs (ba x3)) = some g.len := by rw [bs_ba]; exact e5
        have e6' : numF (bs (ba x5)) = some g.risk := by rw [bs_ba]; exact e6
        refine ⟨r1, r3, by rw [hb3, e5', hb5, e6']; rfl, ?_⟩
        rw [r2, r4, hn3, e5', hn5, e6']
        rfl
      have HN5 := Lib.hid hn5
      have HB5 := Lib.hid hb5
      clear hn5 hb5
      clear hf6 g3 hn3 hb3 HP1 HQ1 HP2 HQ2 HIX
      obtain ⟨W7, hW7⟩ : ∃ W, W = w6.alloc (.cells #[.int .i64 i1, .int .i64 i2, .int .i64 n3, .int .i64 0] 96) := ⟨_, rfl⟩
      obtain ⟨bF, hbF⟩ : ∃ b, b = w6.heap.size := ⟨_, rfl⟩
      have hf7 : Fresh w6 W7 := by rw [hW7]; exact fnew (frefl _) _
      have hloF : w.heap.size ≤ bF := by rw [hbF]; exact (fstep HF2.out HF6.out).size
      have hzF : bZ < bF := by rw [hbF]; exact (HR2.out.keep HF6.out).lt
      have HRF : Hid (RowAt W7 bF 96 [.int .i64 i1, .int .i64 i2, .int .i64 n3, .int .i64 0]) := by show RowAt _ _ _ _; rw [hW7, hbF]; exact RowAt.new _ _ _
      have HRZ := Lib.hid (HR2.out.keep (fstep HF6.out hf7))
      have HF7 := Lib.hid (fstep HF2.out (fstep HF6.out hf7))
      have HF72 := Lib.hid (fstep HF6.out hf7)
      have g5x := fkeep (fnew (frefl w6) (.cells #[.int .i64 i1, .int .i64 i2, .int .i64 n3, .int .i64 0] 96)) g5
      replace g5 := fkeep hf7 g5
      have HW7 := Lib.hid hW7
      have HBF := Lib.hid hbF
      clear hf7 hW7 hbF
      have l6 : (((6 : Nat) : Int) == 6) = true := by decide
      go_upto_region 8 with fail
      rw [← HBF.out, ← HW7.out]
      clear g5x
      go_wp2_with fail
      refine (HPI.out _ _ HF72.out).mono ?_
      rintro e w9 ⟨rfl, hf9⟩
      rw [← HN5.out, ← HB5.out]
      replace HRF := Lib.hid (HRF.out.keep hf9)
      replace HRZ := Lib.hid (HRZ.out.keep hf9)
      replace HF7 := Lib.hid (fstep HF7.out hf9)
      have v3 := HRF.out.cell (i := 3) rfl
      have u3 := HRF.out.frozen 3
      obtain ⟨WA, hWA⟩ : ∃ W, W = w9.setCell ⟨bF, 3, none⟩ (.int .i64 n5) := ⟨_, rfl⟩
      replace HF7 : Hid (Fresh w WA) := by show Fresh _ _; rw [hWA]; exact fset HF7.out hloF (o := 3) (.int .i64 n5)
      replace HRF : Hid (RowAt WA bF 96 [.int .i64 i1, .int .i64 i2, .int .i64 n3, .int .i64 n5]) := by show RowAt _ _ _ _; rw [hWA]; exact HRF.out.set 3 (.int .i64 n5)
      replace HRZ : Hid (RowAt WA bZ 96 [.int .i64 0, .int .i64 0, .int .i64 0, .int .i64 0]) := by show RowAt _ _ _ _; rw [hWA]; exact HRZ.out.setOther (by omega) _
      have HWA := Lib.hid hWA
      clear hWA hf9 HPI
      cases b3 with
      | false =>
        have HALL : Hid (∀ M : Net, netB M = true → M.nodes = nodes → ∀ g ∈ M.fibers, fibL nodes g = bs s → b1 = true ∧ b2 = true ∧ false = true ∧ g = ⟨i1, i2, n3, n5⟩) := HALL0.out
        clear HALL0
        go_upto_region 11 with fail
        rw [← HWA.out]
        clear v3 u3
        have d0 := HRF.out.cell (i := 0) rfl
        have d1 := HRF.out.cell (i := 1) rfl
        have d2 := HRF.out.cell (i := 2) rfl
        have d3 := HRF.out.cell (i := 3) rfl
        have z0 := HRZ.out.cell (i := 0) rfl
        have y0 := HRZ.out.frozen 0
        have z1 := HRZ.out.cell (i := 1) rfl
        have y1 := HRZ.out.frozen 1
        have z2 := HRZ.out.cell (i := 2) rfl
        have y2 := HRZ.out.frozen 2
        have z3 := HRZ.out.cell (i := 3) rfl
        have y3 := HRZ.out.frozen 3
        have hfin := ((((HRZ.out.set 0 (.int .i64 i1)).set 1 (.int .i64 i2)).set 2 (.int .i64 n3)).set 3 (.int .i64 n5))
        have k0 := hfin.cell (i := 0) rfl
        have k1 := hfin.cell (i := 1) rfl
        have k2 := hfin.cell (i := 2) rfl
        have k3 := hfin.cell (i := 3) rfl
        have HFF := Lib.hid (fset (fset (fset (fset HF7.out hlo (o := 0) (.int .i64 i1)) hlo (o := 1) (.int .i64 i2)) hlo (o := 2) (.int .i64 n3)) hlo (o := 3) (.int .i64 n5))
        clear hfin
        cases b1 with
        | false =>
          go_wp2
          refine bodyPost_ret (v := .tuple #[.agg #[.int .i64 i1, .int .i64 i2, .int .i64 n3, .int .i64 n5], .bool false]) (by simp [results, Tryz.results66, go_sem, k0, k1, k2, k3]) rfl ?_
          exact ⟨_, _, _, _, _, rfl, HFF.out, fun M h1 h2 g hg h3 => by obtain ⟨e1, e2, e3, e4⟩ := HALL.out M h1 h2 g hg h3; first | exact ⟨rfl, e4⟩ | (cases e1; done) | (cases e2; done) | (cases e3; done)⟩
        | true =>
          cases b2 with
          | false =>
            go_wp2
            refine bodyPost_ret (v := .tuple #[.agg #[.int .i64 i1, .int .i64 i2, .int .i64 n3, .int .i64 n5], .bool false]) (by simp [results, Tryz.results66, go_sem, k0, k1, k2, k3]) rfl ?_
            exact ⟨_, _, _, _, _, rfl, HFF.out, fun M h1 h2 g hg h3 => by obtain ⟨e1, e2, e3, e4⟩ := HALL.out M h1 h2 g hg h3; first | exact ⟨rfl, e4⟩ | (cases e1; done) | (cases e2; done) | (cases e3; done)⟩
          | true =>
            go_wp2
            refine bodyPost_ret (v := .tuple #[.agg #[.int .i64 i1, .int .i64 i2, .int .i64 n3, .int .i64 n5], .bool false]) (by simp [results, Tryz.results66, go_sem, k0, k1, k2, k3]) rfl ?_
            exact ⟨_, _, _, _, _, rfl, HFF.out, fun M h1 h2 g hg h3 => by obtain ⟨e1, e2, e3, e4⟩ := HALL.out M h1 h2 g hg h3; first | exact ⟨rfl, e4⟩ | (cases e1; done) | (cases e2; done) | (cases e3; done)⟩
      | true =>
        have HALL : Hid (∀ M : Net, netB M = true → M.nodes = nodes → ∀ g ∈ M.fibers, fibL nodes g = bs s → b1 = true ∧ b2 = true ∧ b5 = true ∧ g = ⟨i1, i2, n3, n5⟩) := HALL0.out
        clear HALL0
        go_upto_region 11 with fail
        rw [← HWA.out]
        clear v3 u3
        have d0 := HRF.out.cell (i := 0) rfl
        have d1 := HRF.out.cell (i := 1) rfl
        have d2 := HRF.out.cell (i := 2) rfl
        have d3 := HRF.out.cell (i := 3) rfl
        have z0 := HRZ.out.cell (i := 0) rfl
        have y0 := HRZ.out.frozen 0
        have z1 := HRZ.out.cell (i := 1) rfl
        have y1 := HRZ.out.frozen 1
        have z2 := HRZ.out.cell (i := 2) rfl
        have y2 := HRZ.out.frozen 2
        have z3 := HRZ.out.cell (i := 3) rfl
        have y3 := HRZ.out.frozen 3
        have hfin := ((((HRZ.out.set 0 (.int .i64 i1)).set 1 (.int .i64 i2)).set 2 (.int .i64 n3)).set 3 (.int .i64 n5))
        have k0 := hfin.cell (i := 0) rfl
        have k1 := hfin.cell (i := 1) rfl
        have k2 := hfin.cell (i := 2) rfl
        have k3 := hfin.cell (i := 3) rfl
        have HFF := Lib.hid (fset (fset (fset (fset HF7.out hlo (o := 0) (.int .i64 i1)) hlo (o := 1) (.int .i64 i2)) hlo (o := 2) (.int .i64 n3)) hlo (o := 3) (.int .i64 n5))
        clear hfin
        cases b1 with
        | false =>
          go_wp2
          refine bodyPost_ret (v := .tuple #[.agg #[.int .i64 i1, .int .i64 i2, .int .i64 n3, .int .i64 n5], .bool false]) (by simp [results, Tryz.results66, go_sem, k0, k1, k2, k3]) rfl ?_
          exact ⟨_, _, _, _, _, rfl, HFF.out, fun M h1 h2 g hg h3 => by obtain ⟨e1, e2, e3, e4⟩ := HALL.out M h1 h2 g hg h3; first | exact ⟨rfl, e4⟩ | (cases e1; done) | (cases e2; done) | (cases e3; done)⟩
        | true =>
          cases b2 with
          | false =>
            go_wp2
            refine bodyPost_ret (v := .tuple #[.agg #[.int .i64 i1, .int .i64 i2, .int .i64 n3, .int .i64 n5], .bool false]) (by simp [results, Tryz.results66, go_sem, k0, k1, k2, k3]) rfl ?_
            exact ⟨_, _, _, _, _, rfl, HFF.out, fun M h1 h2 g hg h3 => by obtain ⟨e1, e2, e3, e4⟩ := HALL.out M h1 h2 g hg h3; first | exact ⟨rfl, e4⟩ | (cases e1; done) | (cases e2; done) | (cases e3; done)⟩
          | true =>
            cases b5 with
            | false =>
              go_wp2
              refine bodyPost_ret (v := .tuple #[.agg #[.int .i64 i1, .int .i64 i2, .int .i64 n3, .int .i64 n5], .bool false]) (by simp [results, Tryz.results66, go_sem, k0, k1, k2, k3]) rfl ?_
              exact ⟨_, _, _, _, _, rfl, HFF.out, fun M h1 h2 g hg h3 => by obtain ⟨e1, e2, e3, e4⟩ := HALL.out M h1 h2 g hg h3; first | exact ⟨rfl, e4⟩ | (cases e1; done) | (cases e2; done) | (cases e3; done)⟩
            | true =>
              go_wp2
              refine bodyPost_ret (v := .tuple #[.agg #[.int .i64 i1, .int .i64 i2, .int .i64 n3, .int .i64 n5], .bool true]) (by simp [results, Tryz.results66, go_sem, k0, k1, k2, k3]) rfl ?_
              exact ⟨_, _, _, _, _, rfl, HFF.out, fun M h1 h2 g hg h3 => by obtain ⟨e1, e2, e3, e4⟩ := HALL.out M h1 h2 g hg h3; first | exact ⟨rfl, e4⟩ | (cases e1; done) | (cases e2; done) | (cases e3; done)⟩
    · have l4 : ((P.length : Int) != 4) = true := by rw [bne_iff_ne]; omega
      have l6 : ((P.length : Int) != 6) = true := by rw [bne_iff_ne]; omega
      have z0 := (HR2.out.keep HF3.out).cell (i := 0) rfl
      have z1 := (HR2.out.keep HF3.out).cell (i := 1) rfl
      have z2 := (HR2.out.keep HF3.out).cell (i := 2) rfl
      have z3 := (HR2.out.keep HF3.out).cell (i := 3) rfl
      have y0 := (HR2.out.keep HF3.out).frozen 0
      have y1 := (HR2.out.keep HF3.out).frozen 1
      have y2 := (HR2.out.keep HF3.out).frozen 2
      have y3 := (HR2.out.keep HF3.out).frozen 3
      have hfin := (((((HR2.out.keep HF3.out).set 0 (.int .i64 0)).set 1 (.int .i64 0)).set 2 (.int .i64 0)).set 3 (.int .i64 0))
      have k0 := hfin.cell (i := 0) rfl
      have k1 := hfin.cell (i := 1) rfl
      have k2 := hfin.cell (i := 2) rfl
      have k3 := hfin.cell (i := 3) rfl
      have HFF := Lib.hid (fset (fset (fset (fset (fstep HF2.out HF3.out) hlo (o := 0) (.int .i64 0)) hlo (o := 1) (.int .i64 0)) hlo (o := 2) (.int .i64 0)) hlo (o := 3) (.int .i64 0))
      have HNO : Hid (∀ M : Net, netB M = true → M.nodes = nodes → ∀ g ∈ M.fibers, fibL nodes g = bs s → False) := fun M h1 h2 g hg h3 => by
        rcases fib_len46 h1 h2 hg h3 with h | h
        · rw [← HP.out] at h; exact h4 h
        · rw [← HP.out] at h; exact h6 h
      clear hfin
      go_upto_region 3 with fail
      go_wp2
      refine bodyPost_ret (v := .tuple #[.agg #[.int .i64 0, .int .i64 0, .int .i64 0, .int .i64 0], .bool false]) (by simp [results, Tryz.results66, go_sem, k0, k1, k2, k3]) rfl ?_
      exact ⟨_, _, _, _, _, rfl, HFF.out, fun M h1 h2 g hg h3 => (HNO.out M h1 h2 g hg h3).elim⟩
end Go.Proofs.YtjhaoonacjebpaaGreatDoor
