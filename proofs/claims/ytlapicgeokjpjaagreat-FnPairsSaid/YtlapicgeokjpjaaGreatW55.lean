/- The walk of the law FnPairs. (The region 22 printed by gen_w55.py.) -/
import Derived.Test.YtlapicgeokjpjaaGreatAdi
import Derived.Test.YtlapicgeokjpjaaGreatTr2
import Derived.Test.YtlapicgeokjpjaaGreatBp4
import Derived.Test.YtlapicgeokjpjaaGreatBl
import Derived.Test.YtlapicgeokjpjaaGreatPo2
namespace Go.Proofs.YtlapicgeokjpjaaGreat
open Go.RowKit Go.PlainAid

theorem vBig_any (p : Option Addr) (cap : Nat) (n : Nat) (w : World) : Calls Tryz.prog 5 #[.slice p n cap] w fun e w' => e = .returned (.bool (decide ((65536 : Int) < (n : Int)))) ∧ w = w' := by
  go_enter Tryz.func5, Tryz.ntmps5
  go_wp2
  go_ret
  exact ⟨rfl, rfl⟩
theorem NetIn.agg {w : World} {v : Value} {n : Net} (h : NetIn w v n) : ∃ q c p d, v = .agg #[.slice q n.nodes.length c, .slice p n.fibers.length d] := by
  obtain ⟨q, c, p, d, hv, _⟩ := h; exact ⟨q, c, p, d, hv⟩
theorem sm_good {n : Net} {s t : Int} {a : List Int} (hn : netB n = true) (hs : 0 ≤ s ∧ s < (n.nodes.length : Int)) (h : RtGood n s t a) : SmRt (s, a) := (rt_ok hn hs h).2
theorem part_first {n : Net} {s t k : Int} (h : (bestF n s t k).2.2.1 = true) : SmRt (firstR n s t) := by
  obtain ⟨h1, _⟩ := pair_found h
  obtain ⟨ho, _, hn, hs⟩ := okK_parts h1
  unfold firstR
  cases hx : (allA n s t)[0]? with
  | none => show (0 : Nat) ≤ 1048576; decide
  | some R =>
    have hm := List.mem_of_getElem? hx
    unfold allA at hm
    rw [ho] at hm
    show R.2.length ≤ 1048576
    simp only [if_true] at hm
    obtain ⟨_, hg⟩ := good_mem hm
    exact (rt_ok hn hs hg).2
set_option maxHeartbeats 8000000 in
set_option maxRecDepth 100000 in
theorem law_Pairs (p : Option Addr) (cap : Nat) (xs : List Int) (w : World) (hI : Cells w p (xs.map (Value.int .u8))) (_ : xs.length ≤ 9223372036854775807) (hb : ∀ x ∈ xs, 0 ≤ x ∧ x ≤ 255) :
    Calls Tryz.prog 4 #[.slice p xs.length cap] w fun e w' => e = .returned (.bool true) ∧ Fresh w w' := by
  by_cases hbig : (65536 : Int) < (xs.length : Int)
  · have hbb : decide ((65536 : Int) < (xs.length : Int)) = true := decide_eq_true hbig
    go_enter Tryz.func4, Tryz.ntmps4
    go_wp2_with (go_at_call 5; refine (vBig_any p cap xs.length _).mono ?_; rw [hbb]; rintro e w1 ⟨rfl, rfl⟩)
    go_ret
    exact ⟨rfl, frefl _⟩
  have hbb : decide ((65536 : Int) < (xs.length : Int)) = false := decide_eq_false hbig
  have HDR := Lib.hid (drawBestPair_any p cap xs w ⟨hI, hb, by omega⟩)
  clear hI hb
  go_enter Tryz.func4, Tryz.ntmps4
  go_wp2_with (go_at_call 5; refine (vBig_any p cap xs.length _).mono ?_; rw [hbb]; rintro e w1 ⟨rfl, rfl⟩)
  refine (HDR.out).mono ?_
  rintro e w1 ⟨v, n, s, t, k, rfl, hn1, hf1⟩
  have HN1 := Lib.hid hn1.net
  obtain ⟨q, c, p', d, rfl⟩ := hn1.net.agg
  obtain ⟨W2, hW2⟩ : ∃ W, W = w1.alloc (.cells #[.slice q n.nodes.length c, .slice p' n.fibers.length d] 27) := ⟨_, rfl⟩
  obtain ⟨bN, hbN⟩ : ∃ b, b = w1.heap.size := ⟨_, rfl⟩
  have hf2 : Fresh w1 W2 := by rw [hW2]; exact fnew (frefl _) _
  have HB2 : Hid (RowAt W2 bN 27 [.slice q n.nodes.length c, .slice p' n.fibers.length d]) := by rw [hW2, hbN]; exact RowAt.new _ _ _
  have HN2 := Lib.hid (HN1.out.keep hf2)
  have HF2 := Lib.hid (fstep hf1 hf2)
  -- what the functions hand back, in a few words
  obtain ⟨K, hK0⟩ : ∃ K, K = okK n s t k := ⟨_, rfl⟩
  obtain ⟨fd, hfd⟩ : ∃ fd, fd = (bestF n s t k).2.2.1 := ⟨_, rfl⟩
  obtain ⟨cn, hcn⟩ : ∃ cn, cn = (countF n s t k).1 := ⟨_, rfl⟩
  obtain ⟨pl, hpl⟩ : ∃ pl, pl = (plenF n s t k).1 := ⟨_, rfl⟩
  obtain ⟨tr, htr⟩ : ∃ tr, tr = (trapF n s t k).1 := ⟨_, rfl⟩
  obtain ⟨o1, o2, o3, o4⟩ := oks (n := n) (s := s) (t := t) (k := k)
  have HBP : Hid (∀ W, Fresh W2 W → Calls Tryz.prog 11 #[.agg #[.slice q n.nodes.length c, .slice p' n.fibers.length d], .int .i64 s, .int .i64 t, .int .i64 k] W fun e w' => ∃ vA vB, e = .returned (.tuple #[vA, vB, .bool fd, .bool K]) ∧ (RtOwn w' W.heap.size vA (bestF n s t k).1 ∧ RtOwn w' W.heap.size vB (bestF n s t k).2.1 ∧ RtApart vA vB) ∧ Fresh W w') := fun W hW => by
    rw [hfd, hK0, ← o1]; exact implBestPair_l _ n s t k W (HN2.out.keep hW)
  have HBQ : Hid (∀ W, Fresh W2 W → Calls Tryz.prog 14 #[.agg #[.slice q n.nodes.length c, .slice p' n.fibers.length d], .int .i64 s, .int .i64 t, .int .i64 k] W fun e w' => ∃ vA vB, e = .returned (.tuple #[vA, vB, .bool fd, .bool K]) ∧ (RtOwn w' W.heap.size vA (bestF n s t k).1 ∧ RtOwn w' W.heap.size vB (bestF n s t k).2.1 ∧ RtApart vA vB) ∧ Fresh W w') := fun W hW => by
    rw [hfd, hK0, ← o1]; exact specBestPair_l _ n s t k W (HN2.out.keep hW)
  have HCP : Hid (∀ W, Fresh W2 W → Calls Tryz.prog 12 #[.agg #[.slice q n.nodes.length c, .slice p' n.fibers.length d], .int .i64 s, .int .i64 t, .int .i64 k] W fun e w' => e = .returned (.tuple #[.int .i64 cn, .bool K]) ∧ Fresh W w') := fun W hW => by
    rw [hcn, hK0, ← o2]; exact implCountPairs_any _ n s t k W (HN2.out.keep hW)
  have HPL : Hid (∀ W, Fresh W2 W → Calls Tryz.prog 13 #[.agg #[.slice q n.nodes.length c, .slice p' n.fibers.length d], .int .i64 s, .int .i64 t, .int .i64 k] W fun e w' => e = .returned (.tuple #[.int .i64 pl, .bool K]) ∧ Fresh W w') := fun W hW => by
    rw [hpl, hK0, ← o3]; exact implPairLength_any _ n s t k W (HN2.out.keep hW)
  have HIT : Hid (∀ W, Fresh W2 W → Calls Tryz.prog 18 #[.agg #[.slice q n.nodes.length c, .slice p' n.fibers.length d], .int .i64 s, .int .i64 t, .int .i64 k] W fun e w' => e = .returned (.tuple #[.bool tr, .bool K]) ∧ Fresh W w') := fun W hW => by
    rw [htr, hK0, ← o4]; exact implIsTrap_any _ n s t k W (HN2.out.keep hW)
  have hcf : decide (0 < cn) = fd := by rw [hcn, hfd]; exact count_found
  have HPZ : Hid (fd = false → pl = 0) := fun h => by rw [hpl]; exact plen_zero (by rw [← hfd]; exact h)
  have HFD := Lib.hid hfd
  have HK0 := Lib.hid hK0
  have HPLE := Lib.hid hpl
  have HTR := Lib.hid htr
  have HW2 := Lib.hid hW2
  have HBN := Lib.hid hbN
  have HBA : Hid (∃ Ra, Ra = (bestF n s t k).1) := ⟨_, rfl⟩
  clear hf1 hf2 hn1 hW2 hbN hK0 hfd hcn hpl htr o1 o2 o3 o4 HDR hbb HN1
  go_wp2_with fail
  rw [← HBN.out, ← HW2.out]
  refine (HBP.out _ (frefl _)).mono ?_
  rintro e w3 ⟨vA, vB, rfl, ⟨hA, hB, hAB⟩, hf3⟩
  obtain ⟨sa, qa, ma, ca, rfl⟩ := hA.shape
  obtain ⟨sb, qb, mb, cb, rfl⟩ := hB.shape
  obtain ⟨W5, hW5, hsz5, hf5, r5a, r5b⟩ := two_rows w3 [.int .i64 sa, .slice qa ma ca] [.int .i64 sb, .slice qb mb cb] 39 39
  have HF5 := Lib.hid (fstep hf3 hf5)
  have HA5 := Lib.hid (hA.keep hf5)
  have HB5 := Lib.hid (hB.keep hf5)
  have HRA := Lib.hid r5a
  have HRB := Lib.hid r5b
  have HW5 := Lib.hid hW5
  obtain ⟨bA, hbA⟩ : ∃ b, b = w3.heap.size := ⟨_, rfl⟩
  rw [← hbA] at HRA HRB
  have HBAE := Lib.hid hbA
  clear hf3 hf5 hA hB hAB r5a r5b hW5 hsz5 hbA HBP
  go_upto_region 5 with fail
  rw [← HW5.out, ← HBAE.out]
  have c0 := (HB2.out.keep HF5.out).cell (i := 0) rfl
  have c1 := (HB2.out.keep HF5.out).cell (i := 1) rfl
  go_wp2_with fail
  refine (HCP.out _ HF5.out).mono ?_
  rintro e w6 ⟨rfl, hf6⟩
  have d0 := fkeep hf6 c0
  have d1 := fkeep hf6 c1
  have HF6 := Lib.hid (fstep HF5.out hf6)
  have HA6 := Lib.hid (HA5.out.keep hf6)
  have HB6 := Lib.hid (HB5.out.keep hf6)
  have HRA6 := Lib.hid (HRA.out.keep hf6)
  have HRB6 := Lib.hid (HRB.out.keep hf6)
  clear hf6 c0 c1 HA5 HB5 HRA HRB HF5
  go_wp2_with fail
  refine (HPL.out _ HF6.out).mono ?_
  rintro e w7 ⟨rfl, hf7⟩
  have c0 := fkeep hf7 d0
  have c1 := fkeep hf7 d1
  have HF7 := Lib.hid (fstep HF6.out hf7)
  have HA7 := Lib.hid (HA6.out.keep hf7)
  have HB7 := Lib.hid (HB6.out.keep hf7)
  have HRA7 := Lib.hid (HRA6.out.keep hf7)
  have HRB7 := Lib.hid (HRB6.out.keep hf7)
  clear hf7 d0 d1 HA6 HB6 HRA6 HRB6 HF6
  go_wp2_with fail
  refine (HBQ.out _ HF7.out).mono ?_
  rintro e w8 ⟨vC, vD, rfl, ⟨hC8, hD8, -⟩, hf8⟩
  obtain ⟨sc, qc, mc, cc, rfl⟩ := hC8.shape
  obtain ⟨sd, qd, md, cd, rfl⟩ := hD8.shape
  obtain ⟨W8, hW8, hsz8, hf8b, -, -⟩ := two_rows w8 [.int .i64 sc, .slice qc mc cc] [.int .i64 sd, .slice qd md cd] 39 39
  have hf9 := fstep hf8 hf8b
  have HF8' := Lib.hid (fstep HF7.out hf9)
  have HF8 : Hid (Fresh w W8) := fstep HF2.out HF8'.out
  have HA8 := Lib.hid (HA7.out.keep hf9)
  have HB8 := Lib.hid (HB7.out.keep hf9)
  have HRA8 := Lib.hid (HRA7.out.keep hf9)
  have HRB8 := Lib.hid (HRB7.out.keep hf9)
  have HN8 := Lib.hid (HN2.out.keep HF8'.out)
  have HBN8 := Lib.hid (HB2.out.keep HF8'.out)
  have HW8 := Lib.hid hW8
  clear hf8 hf8b hf9 hC8 hD8 hW8 hsz8 c0 c1 HA7 HB7 HRA7 HRB7 HF7
  go_upto_region 8 with fail
  rw [← HW8.out]
  cases fd with
  | false =>
    have hplz : pl = 0 := HPZ.out rfl
    subst hplz
    have hcz : ¬ 0 < cn := by intro h; rw [decide_eq_true h] at hcf; cases hcf
    have hcz2 : cn ≤ 0 := by omega
    clear hcf
    cases K with
    | false =>
      go_wp2
      go_ret
      exact ⟨rfl, HF8.out⟩
    | true =>
      go_wp2
      go_ret
      exact ⟨rfl, HF8.out⟩
  | true =>
    have hcz : 0 < cn := by
      rcases Int.lt_or_le 0 cn with h | h
      · exact h
      · rw [decide_eq_false (by omega)] at hcf; cases hcf
    clear hcf
    obtain ⟨g1, A, B, g2, g3, g4, g5, g6, g7, Pp, g8, g9, g10⟩ := pair_found HFD.out.symm
    obtain ⟨j1, j2, j3, j4⟩ := okK_parts g1
    obtain rfl : K = true := by rw [HK0.out]; exact g1
    have hvA := good_vis j4 g4
    have hvB := good_vis j4 g5
    have hvP := good_vis j4 g9
    have hok1 : adF n (s, A) (s, B) k = (true, true) := by
      unfold adF adB
      simp only [j3, hvA.1, hvB.1, hvA.2, hvB.2, j2, g6]
      simp
    have hrlA : rlF n (s, A) = (lenR n.fibers A, true) := by unfold rlF; simp [j3, hvA.1]
    have hrlB : rlF n (s, B) = (lenR n.fibers B, true) := by unfold rlF; simp [j3, hvB.1]
    have hrlP : rlF n (s, Pp) = (lenR n.fibers B, true) := by unfold rlF; simp [j3, hvP.1, g10]
    have hnl := net_len j3
    have hba := lenR_bd (l := A) hnl
    have hbb := lenR_bd (l := B) hnl
    have hsA := sm_good j3 j4 g4
    have hsB := sm_good j3 j4 g5
    have hsP := sm_good j3 j4 g9
    unfold SmRt at hsA hsB
    simp only at hsA hsB
    obtain ⟨x, hx⟩ : ∃ x, x = lenR n.fibers A := ⟨_, rfl⟩
    obtain ⟨y, hy⟩ : ∃ y, y = lenR n.fibers B := ⟨_, rfl⟩
    rw [← hx] at hba hrlA g7
    rw [← hy] at hbb hrlB hrlP g7
    have hxy : x + y = pl := by rw [HPLE.out]; exact g7
    have HSF := Lib.hid (part_first HFD.out.symm)
    obtain ⟨tq, htq⟩ : ∃ tq, tq = (partF n (firstR n s t) k).2.1 := ⟨_, rfl⟩
    obtain ⟨tk, htk⟩ : ∃ tk, tk = (partF n (firstR n s t) k).2.2 := ⟨_, rfl⟩
    have htrq : tr = !tq := by rw [HTR.out, htq]; exact trap_found HFD.out.symm
    have HPF : Hid (∀ W u, NetIn W (.agg #[.slice q n.nodes.length c, .slice p' n.fibers.length d]) n → RtIn W u (firstR n s t) → Calls Tryz.prog 17 #[.agg #[.slice q n.nodes.length c, .slice p' n.fibers.length d], u, .int .i64 k] W fun e w' => ∃ v', e = .returned (.tuple #[v', .bool tq, .bool tk]) ∧ RtOwn w' W.heap.size v' (partF n (firstR n s t) k).1 ∧ Fresh W w') := fun W u h1 h2 => by
      rw [htq, htk]; exact implPartnerOf_any _ n u _ k W h1 h2
    have HPA : Hid (∀ W u, NetIn W (.agg #[.slice q n.nodes.length c, .slice p' n.fibers.length d]) n → RtIn W u (s, A) → Calls Tryz.prog 17 #[.agg #[.slice q n.nodes.length c, .slice p' n.fibers.length d], u, .int .i64 k] W fun e w' => ∃ v', e = .returned (.tuple #[v', .bool true, .bool true]) ∧ RtOwn w' W.heap.size v' (s, Pp) ∧ Fresh W w') := fun W u h1 h2 => by
      have := implPartnerOf_any _ n u _ k W h1 h2
      rw [g8] at this; exact this
    have HAD : Hid (∀ W u1 u2, NetIn W (.agg #[.slice q n.nodes.length c, .slice p' n.fibers.length d]) n → RtIn W u1 (s, A) → RtIn W u2 (s, B) → Calls Tryz.prog 15 #[.agg #[.slice q n.nodes.length c, .slice p' n.fibers.length d], u1, u2, .int .i64 k] W fun e w' => e = .returned (.tuple #[.bool true, .bool true]) ∧ Fresh W w') := fun W u1 u2 h1 h2 h3 => by
      have := areDisjoint_any _ n u1 u2 _ _ k W h1 h2 h3
      rw [hok1] at this; exact this
    have HRLA : Hid (∀ W u, NetIn W (.agg #[.slice q n.nodes.length c, .slice p' n.fibers.length d]) n → RtIn W u (s, A) → Calls Tryz.prog 16 #[.agg #[.slice q n.nodes.length c, .slice p' n.fibers.length d], u] W fun e w' => e = .returned (.tuple #[.int .i64 x, .bool true]) ∧ Fresh W w') := fun W u h1 h2 => by
      have := routeLength_any _ n u _ W h1 h2
      rw [hrlA] at this; exact this
    have HRLB : Hid (∀ W u, NetIn W (.agg #[.slice q n.nodes.length c, .slice p' n.fibers.length d]) n → RtIn W u (s, B) → Calls Tryz.prog 16 #[.agg #[.slice q n.nodes.length c, .slice p' n.fibers.length d], u] W fun e w' => e = .returned (.tuple #[.int .i64 y, .bool true]) ∧ Fresh W w') := fun W u h1 h2 => by
      have := routeLength_any _ n u _ W h1 h2
      rw [hrlB] at this; exact this
    have HRLP : Hid (∀ W u, NetIn W (.agg #[.slice q n.nodes.length c, .slice p' n.fibers.length d]) n → RtIn W u (s, Pp) → Calls Tryz.prog 16 #[.agg #[.slice q n.nodes.length c, .slice p' n.fibers.length d], u] W fun e w' => e = .returned (.tuple #[.int .i64 y, .bool true]) ∧ Fresh W w') := fun W u h1 h2 => by
      have := routeLength_any _ n u _ W h1 h2
      rw [hrlP] at this; exact this
    have HIA : Hid (RtIn W8 (.agg #[.int .i64 sa, .slice qa ma ca]) (s, A)) := by
      have := HA8.out; rw [g2] at this; exact this.rtIn hsA
    have HIB : Hid (RtIn W8 (.agg #[.int .i64 sb, .slice qb mb cb]) (s, B)) := by
      have := HB8.out; rw [g3] at this; exact this.rtIn hsB
    have HSP := Lib.hid hsP
    have hw1 : IntKind.i64.wrap (x + y) = x + y := by rw [IntKind.wrap_i64]; omega
    have hw2 : (x + y == pl) = true := by rw [beq_iff_eq]; exact hxy
    have hw3 : (x + y != pl) = false := by rw [hxy]; simp
    have hw4 : (pl == pl) = true := by simp
    have hyy : (y == y) = true := by simp
    have hcn : ¬ cn ≤ 0 := by omega
    have HXY := Lib.hid hxy
    subst htrq
    clear g1 g2 g3 g4 g5 g6 g7 g8 g9 g10 j1 j2 j3 j4 hvA hvB hvP hok1 hrlA hrlB hrlP hnl hba hbb hsA hsB hsP hx hy htq htk hxy HA8 HB8
    have c0 := HBN8.out.cell (i := 0) rfl
    have c1 := HBN8.out.cell (i := 1) rfl
    have a0 := HRA8.out.cell (i := 0) rfl
    have a1 := HRA8.out.cell (i := 1) rfl
    have b0 := HRB8.out.cell (i := 0) rfl
    have b1 := HRB8.out.cell (i := 1) rfl
    go_wp2_with fail
    refine (HAD.out _ _ _ HN8.out HIA.out HIB.out).mono ?_
    rintro e w9 ⟨rfl, f9⟩
    have HF9 := Lib.hid f9
    have u0 := fkeep f9 c0
    have u1 := fkeep f9 c1
    have u2 := fkeep f9 a0
    have u3 := fkeep f9 a1
    have u4 := fkeep f9 b0
    have u5 := fkeep f9 b1
    have HX0 := Lib.hid c0
    have HX1 := Lib.hid c1
    clear c0 c1 a0 a1 b0 b1 f9
    go_wp2_with fail
    refine (HRLA.out _ _ (HN8.out.keep HF9.out) (HIA.out.keep HF9.out)).mono ?_
    rintro e w10 ⟨rfl, f10⟩
    have HF10 := Lib.hid (fstep HF9.out f10)
    have c0 := fkeep f10 u0
    have c1 := fkeep f10 u1
    have b0 := fkeep f10 u4
    have b1 := fkeep f10 u5
    have a0 := fkeep f10 u2
    have a1 := fkeep f10 u3
    clear u0 u1 u2 u3 u4 u5 f10
    go_wp2_with fail
    refine (HRLB.out _ _ (HN8.out.keep HF10.out) (HIB.out.keep HF10.out)).mono ?_
    rintro e w11 ⟨rfl, f11⟩
    have HF11 := Lib.hid (fstep HF10.out f11)
    have u0 := fkeep f11 c0
    have u1 := fkeep f11 c1
    have u2 := fkeep f11 a0
    have u3 := fkeep f11 a1
    clear c0 c1 a0 a1 b0 b1 f11
    go_wp2_with fail
    refine (HPA.out _ _ (HN8.out.keep HF11.out) (HIA.out.keep HF11.out)).mono ?_
    rintro e w12 ⟨v12, rfl, h12, f12⟩
    obtain ⟨sp, qp, mp, cp, rfl⟩ := h12.shape
    obtain ⟨W12, hW12⟩ : ∃ W, W = w12.alloc (.cells #[.int .i64 sp, .slice qp mp cp] 39) := ⟨_, rfl⟩
    obtain ⟨bP, hbP⟩ : ∃ b, b = w12.heap.size := ⟨_, rfl⟩
    have f12b : Fresh w12 W12 := by rw [hW12]; exact fnew (frefl _) _
    have HBP : Hid (RowAt W12 bP 39 [.int .i64 sp, .slice qp mp cp]) := by rw [hW12, hbP]; exact RowAt.new _ _ _
    have HF12 := Lib.hid (fstep HF11.out (fstep f12 f12b))
    have HIP : Hid (RtIn W12 (.agg #[.int .i64 sp, .slice qp mp cp]) (s, Pp)) := (h12.keep f12b).rtIn HSP.out
    have c0 := fkeep (fstep f12 f12b) u0
    have c1 := fkeep (fstep f12 f12b) u1
    have p0 := HBP.out.cell (i := 0) rfl
    have p1 := HBP.out.cell (i := 1) rfl
    have HW12 := Lib.hid hW12
    have HBPE := Lib.hid hbP
    clear u0 u1 u2 u3 f12 f12b h12 hW12 hbP
    go_upto_region 18 with fail
    rw [← HW12.out, ← HBPE.out]
    go_wp2_with fail
    refine (HRLP.out _ _ (HN8.out.keep HF12.out) HIP.out).mono ?_
    rintro e w13 ⟨rfl, f13⟩
    have HF13 := Lib.hid (fstep HF12.out f13)
    have u0 := fkeep f13 c0
    have u1 := fkeep f13 c1
    clear c0 c1 p0 p1 f13
    go_wp2_with fail
    refine (HIT.out _ (fstep HF8'.out HF13.out)).mono ?_
    rintro e w14 ⟨rfl, f14⟩
    have HF14 := Lib.hid (fstep HF13.out f14)
    have c0 := fkeep f14 u0
    have c1 := fkeep f14 u1
    clear u0 u1 f14
    go_upto_region 22 with fail
    refine hd_start (n := 14) (S := fun w' => w'.cell? ⟨bN, 0, none⟩ = some (.slice q n.nodes.length c) ∧ w'.cell? ⟨bN, 1, none⟩ = some (.slice p' n.fibers.length d)) (by kernel_rfl) (by kernel_rfl) ⟨fkeep (fdrew (frefl _)) c0, fkeep (fdrew (frefl _)) c1⟩ (fun hHeld => ?_)
    obtain ⟨d0, hd0⟩ : ∃ W, W = w14.drew := ⟨_, rfl⟩
    rw [← hd0] at hHeld ⊢
    have fd0 : Fresh W8 d0 := fstep HF14.out (by rw [hd0]; exact fdrew (frefl _))
    clear hd0 c0 c1
    have g0 := HX0.out
    have g1 := HX1.out
    refine hd_tk (i := 0) (v := ?_) rfl ?_ ?_
    rotate_left
    · (intro w hSw; (try dsimp only at hSw); go_simp; first | done | with_reducible rfl)
    try simp only [PU]
    refine hd_tk (i := 1) (v := ?_) rfl ?_ ?_
    rotate_left
    · (intro w hSw; (try dsimp only at hSw); go_simp; first | done | with_reducible rfl)
    try simp only [PU]
    refine hd_tk (i := 2) (v := ?_) rfl ?_ ?_
    rotate_left
    · (intro w hSw; (try dsimp only at hSw); go_simp; first | done | with_reducible rfl)
    try simp only [PU]
    refine hd_tk (i := 3) (v := ?_) rfl ?_ ?_
    rotate_left
    · (intro w hSw; (try dsimp only at hSw); go_simp; first | done | with_reducible rfl)
    try simp only [PU]
    refine hd_tk (i := 5) (v := ?_) rfl ?_ ?_
    rotate_left
    · (intro w hSw; (try dsimp only at hSw); go_simp; first | done | with_reducible rfl)
    try simp only [PU]
    refine hd_ready (rs := [4, 11]) (by kernel_rfl) (by simp) ?_
    refine hd_cons (i := 4) rfl (by kernel_rfl) (fun K hK => ?_) ?_
    · skip
      go_simp
      go_at_call 19
      refine (rFirst_any _ n s t _ (HN8.out.keep fd0)).mono ?_
      rintro e u1 ⟨v4, rfl, h4, hf4⟩
      have fu2 := fstep fd0 hf4
      have r4 := h4.rtIn HSF.out
      obtain ⟨s4, q4, m4, c4, rfl⟩ := h4.shape
      clear h4 hf4
      go_wp2_with fail
      refine hK.out _ _ ?_ (fun hHeld => ?_)
      · exact ⟨fkeep fu2 g0, fkeep fu2 g1⟩
      clear hK K
      try simp only [PU]
      refine hd_ready (rs := [6, 11]) (by kernel_rfl) (by simp) ?_
      refine hd_cons (i := 6) rfl (by kernel_rfl) (fun K hK => ?_) ?_
      · skip
        go_simp
        go_at_call 17
        refine (HPF.out _ _ (HN8.out.keep fu2) r4).mono ?_
        rintro e u3 ⟨v6, rfl, h6, hf6⟩
        have fu4 := fstep fu2 hf6
        obtain ⟨s6, q6, m6, c6, rfl⟩ := h6.shape
        clear h6 hf6
        go_wp2_with fail
        refine hK.out _ _ ?_ (fun hHeld => ?_)
        · exact ⟨fkeep fu4 g0, fkeep fu4 g1⟩
        clear hK K
        try simp only [PU]
        refine hd_tk (i := 7) (v := ?_) rfl ?_ ?_
        rotate_left
        · (intro w hSw; (try dsimp only at hSw); go_simp; first | done | with_reducible rfl)
        try simp only [PU]
        refine hd_tk (i := 8) (v := ?_) rfl ?_ ?_
        rotate_left
        · (intro w hSw; (try dsimp only at hSw); go_simp; first | done | with_reducible rfl)
        try simp only [PU]
        refine hd_tk (i := 9) (v := ?_) rfl ?_ ?_
        rotate_left
        · (intro w hSw; (try dsimp only at hSw); go_simp; first | done | with_reducible rfl)
        try simp only [PU]
        refine hd_tk (i := 10) (v := ?_) rfl ?_ ?_
        rotate_left
        · (intro w hSw; (try dsimp only at hSw); go_simp; first | done | with_reducible rfl)
        try simp only [PU]
        refine hd_one (i := 11) rfl (by kernel_rfl) (by kernel_rfl) (fun K hK => ?_)
        go_simp
        obtain ⟨u5, hu5⟩ : ∃ W, W = u3.alloc (.cells #[.int .i64 0, .slice none 0 0] 39) := ⟨_, rfl⟩
        rw [← hu5]
        obtain ⟨q7, hq7⟩ : ∃ q, q = u3.heap.size := ⟨_, rfl⟩
        have hfau5 : Fresh u3 u5 := by rw [hu5]; exact fnew (frefl _) _
        have fu6 := fstep fu4 hfau5
        have hbq7 : RowAt u5 q7 39 [.int .i64 0, .slice none 0 0] := by rw [hu5, hq7]; exact RowAt.new _ _ _
        have hloq7 : W8.heap.size ≤ q7 := by rw [hq7]; exact (fu4).size
        rw [← hq7]
        clear hu5 hq7 hfau5
        refine hK.out _ _ ?_ (fun hHeld => ?_)
        · exact ⟨fkeep fu6 g0, fkeep fu6 g1⟩
        clear hK K
        try simp only [PU]
        refine hd_one (i := 12) rfl (by kernel_rfl) (by kernel_rfl) (fun K hK => ?_)
        have z0 := hbq7.cell (i := 0) rfl
        have z1 := hbq7.cell (i := 1) rfl
        have y0 := hbq7.frozen 0
        have y1 := hbq7.frozen 1
        have fz := fset (fset fu6 hloq7 (o := 0) (.int .i64 s6)) hloq7 (o := 1) (.slice q6 m6 c6)
        go_simp
        refine hK.out _ _ ?_ (fun hHeld => ?_)
        · exact ⟨fkeep fz g0, fkeep fz g1⟩
        clear hK K
        try simp only [PU]
        refine hd_tk (i := 13) (v := ?_) rfl ?_ ?_
        rotate_left
        · (intro w hSw; (try dsimp only at hSw); go_simp; first | done | with_reducible rfl)
        try simp only [PU]
        refine hd_done (by kernel_rfl) ?_
        clear hHeld
        simp only [List.drop_succ_cons, List.drop_zero]
        have HFZ := Lib.hid fz
        clear z0 z1 y0 y1
        go_wp2
        go_ret
        exact ⟨rfl, fstep HF8.out HFZ.out⟩
      refine hd_cons (i := 11) rfl (by kernel_rfl) (fun K hK => ?_) ?_
      · skip
        go_simp
        obtain ⟨u8, hu8⟩ : ∃ W, W = u1.alloc (.cells #[.int .i64 0, .slice none 0 0] 39) := ⟨_, rfl⟩
        rw [← hu8]
        obtain ⟨q10, hq10⟩ : ∃ q, q = u1.heap.size := ⟨_, rfl⟩
        have hfau8 : Fresh u1 u8 := by rw [hu8]; exact fnew (frefl _) _
        have fu9 := fstep fu2 hfau8
        have hbq10 : RowAt u8 q10 39 [.int .i64 0, .slice none 0 0] := by rw [hu8, hq10]; exact RowAt.new _ _ _
        have hloq10 : W8.heap.size ≤ q10 := by rw [hq10]; exact (fu2).size
        have r4u8 := r4.keep hfau8
        rw [← hq10]
        clear hu8 hq10 hfau8
        refine hK.out _ _ ?_ (fun hHeld => ?_)
        · exact ⟨fkeep fu9 g0, fkeep fu9 g1⟩
        clear hK K
        try simp only [PU]
        refine hd_one (i := 6) rfl (by kernel_rfl) (by kernel_rfl) (fun K hK => ?_)
        go_simp
        go_at_call 17
        refine (HPF.out _ _ (HN8.out.keep fu9) r4u8).mono ?_
        rintro e u11 ⟨v6, rfl, h6, hf6⟩
        have fu12 := fstep fu9 hf6
        have hbzu11 := hbq10.keep hf6
        obtain ⟨s6, q6, m6, c6, rfl⟩ := h6.shape
        clear h6 hf6
        go_wp2_with fail
        refine hK.out _ _ ?_ (fun hHeld => ?_)
        · exact ⟨fkeep fu12 g0, fkeep fu12 g1⟩
        clear hK K
        try simp only [PU]
        refine hd_tk (i := 7) (v := ?_) rfl ?_ ?_
        rotate_left
        · (intro w hSw; (try dsimp only at hSw); go_simp; first | done | with_reducible rfl)
        try simp only [PU]
        refine hd_tk (i := 8) (v := ?_) rfl ?_ ?_
        rotate_left
        · (intro w hSw; (try dsimp only at hSw); go_simp; first | done | with_reducible rfl)
        try simp only [PU]
        refine hd_tk (i := 9) (v := ?_) rfl ?_ ?_
        rotate_left
        · (intro w hSw; (try dsimp only at hSw); go_simp; first | done | with_reducible rfl)
        try simp only [PU]
        refine hd_tk (i := 10) (v := ?_) rfl ?_ ?_
        rotate_left
        · (intro w hSw; (try dsimp only at hSw); go_simp; first | done | with_reducible rfl)
        try simp only [PU]
        refine hd_one (i := 12) rfl (by kernel_rfl) (by kernel_rfl) (fun K hK => ?_)
        have z0 := hbzu11.cell (i := 0) rfl
        have z1 := hbzu11.cell (i := 1) rfl
        have y0 := hbzu11.frozen 0
        have y1 := hbzu11.frozen 1
        have fz := fset (fset fu12 hloq10 (o := 0) (.int .i64 s6)) hloq10 (o := 1) (.slice q6 m6 c6)
        go_simp
        refine hK.out _ _ ?_ (fun hHeld => ?_)
        · exact ⟨fkeep fz g0, fkeep fz g1⟩
        clear hK K
        try simp only [PU]
        refine hd_tk (i := 13) (v := ?_) rfl ?_ ?_
        rotate_left
        · (intro w hSw; (try dsimp only at hSw); go_simp; first | done | with_reducible rfl)
        try simp only [PU]
        refine hd_done (by kernel_rfl) ?_
        clear hHeld
        simp only [List.drop_succ_cons, List.drop_zero]
        have HFZ := Lib.hid fz
        clear z0 z1 y0 y1
        go_wp2
        go_ret
        exact ⟨rfl, fstep HF8.out HFZ.out⟩
      exact hd_nil
    refine hd_cons (i := 11) rfl (by kernel_rfl) (fun K hK => ?_) ?_
    · skip
      go_simp
      obtain ⟨u13, hu13⟩ : ∃ W, W = d0.alloc (.cells #[.int .i64 0, .slice none 0 0] 39) := ⟨_, rfl⟩
      rw [← hu13]
      obtain ⟨q15, hq15⟩ : ∃ q, q = d0.heap.size := ⟨_, rfl⟩
      have hfau13 : Fresh d0 u13 := by rw [hu13]; exact fnew (frefl _) _
      have fu14 := fstep fd0 hfau13
      have hbq15 : RowAt u13 q15 39 [.int .i64 0, .slice none 0 0] := by rw [hu13, hq15]; exact RowAt.new _ _ _
      have hloq15 : W8.heap.size ≤ q15 := by rw [hq15]; exact (fd0).size
      rw [← hq15]
      clear hu13 hq15 hfau13
      refine hK.out _ _ ?_ (fun hHeld => ?_)
      · exact ⟨fkeep fu14 g0, fkeep fu14 g1⟩
      clear hK K
      try simp only [PU]
      refine hd_one (i := 4) rfl (by kernel_rfl) (by kernel_rfl) (fun K hK => ?_)
      go_simp
      go_at_call 19
      refine (rFirst_any _ n s t _ (HN8.out.keep fu14)).mono ?_
      rintro e u16 ⟨v4, rfl, h4, hf4⟩
      have fu17 := fstep fu14 hf4
      have r4 := h4.rtIn HSF.out
      have hbzu16 := hbq15.keep hf4
      obtain ⟨s4, q4, m4, c4, rfl⟩ := h4.shape
      clear h4 hf4
      go_wp2_with fail
      refine hK.out _ _ ?_ (fun hHeld => ?_)
      · exact ⟨fkeep fu17 g0, fkeep fu17 g1⟩
      clear hK K
      try simp only [PU]
      refine hd_one (i := 6) rfl (by kernel_rfl) (by kernel_rfl) (fun K hK => ?_)
      go_simp
      go_at_call 17
      refine (HPF.out _ _ (HN8.out.keep fu17) r4).mono ?_
      rintro e u18 ⟨v6, rfl, h6, hf6⟩
      have fu19 := fstep fu17 hf6
      have hbzu18 := hbzu16.keep hf6
      obtain ⟨s6, q6, m6, c6, rfl⟩ := h6.shape
      clear h6 hf6
      go_wp2_with fail
      refine hK.out _ _ ?_ (fun hHeld => ?_)
      · exact ⟨fkeep fu19 g0, fkeep fu19 g1⟩
      clear hK K
      try simp only [PU]
      refine hd_tk (i := 7) (v := ?_) rfl ?_ ?_
      rotate_left
      · (intro w hSw; (try dsimp only at hSw); go_simp; first | done | with_reducible rfl)
      try simp only [PU]
      refine hd_tk (i := 8) (v := ?_) rfl ?_ ?_
      rotate_left
      · (intro w hSw; (try dsimp only at hSw); go_simp; first | done | with_reducible rfl)
      try simp only [PU]
      refine hd_tk (i := 9) (v := ?_) rfl ?_ ?_
      rotate_left
      · (intro w hSw; (try dsimp only at hSw); go_simp; first | done | with_reducible rfl)
      try simp only [PU]
      refine hd_tk (i := 10) (v := ?_) rfl ?_ ?_
      rotate_left
      · (intro w hSw; (try dsimp only at hSw); go_simp; first | done | with_reducible rfl)
      try simp only [PU]
      refine hd_one (i := 12) rfl (by kernel_rfl) (by kernel_rfl) (fun K hK => ?_)
      have z0 := hbzu18.cell (i := 0) rfl
      have z1 := hbzu18.cell (i := 1) rfl
      have y0 := hbzu18.frozen 0
      have y1 := hbzu18.frozen 1
      have fz := fset (fset fu19 hloq15 (o := 0) (.int .i64 s6)) hloq15 (o := 1) (.slice q6 m6 c6)
      go_simp
      refine hK.out _ _ ?_ (fun hHeld => ?_)
      · exact ⟨fkeep fz g0, fkeep fz g1⟩
      clear hK K
      try simp only [PU]
      refine hd_tk (i := 13) (v := ?_) rfl ?_ ?_
      rotate_left
      · (intro w hSw; (try dsimp only at hSw); go_simp; first | done | with_reducible rfl)
      try simp only [PU]
      refine hd_done (by kernel_rfl) ?_
      clear hHeld
      simp only [List.drop_succ_cons, List.drop_zero]
      have HFZ := Lib.hid fz
      clear z0 z1 y0 y1
      go_wp2
      go_ret
      exact ⟨rfl, fstep HF8.out HFZ.out⟩
    exact hd_nil
end Go.Proofs.YtlapicgeokjpjaaGreat
