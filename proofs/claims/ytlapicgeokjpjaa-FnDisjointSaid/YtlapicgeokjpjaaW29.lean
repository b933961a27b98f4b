/- The walk of the law FnDisjoint. -/
import Derived.Test.YtlapicgeokjpjaaDs
import Derived.Test.YtlapicgeokjpjaaCr
import Derived.Test.YtlapicgeokjpjaaCs
namespace Go.Proofs.Ytlapicgeokjpjaa
open Go.RowKit Go.PlainAid

theorem vBig_d (p : Option Addr) (cap : Nat) (n : Nat) (w : World) : Calls Try.prog 4 #[.slice p n cap] w fun e w' => e = .returned (.bool (decide ((65536 : Int) < (n : Int)))) ∧ w = w' := by
  go_enter Try.func4, Try.ntmps4
  go_wp2
  go_ret
  exact ⟨rfl, rfl⟩
theorem NetIn.aggD {w : World} {v : Value} {n : Net} (h : NetIn w v n) : ∃ q c p d, v = .agg #[.slice q n.nodes.length c, .slice p n.fibers.length d] := by
  obtain ⟨q, c, p, d, hv, _⟩ := h; exact ⟨q, c, p, d, hv⟩
theorem RtIn.aggD {w : World} {v : Value} {R : Int × List Int} (h : RtIn w v R) : ∃ s q n c, v = .agg #[.int .i64 s, .slice q n c] := by
  obtain ⟨s, q, c, l, hv, _⟩ := h; exact ⟨s, q, _, c, hv⟩
set_option maxHeartbeats 8000000 in
set_option maxRecDepth 100000 in
theorem law_Disjoint (p : Option Addr) (cap : Nat) (xs : List Int) (w : World) (hI : Cells w p (xs.map (Value.int .u8))) (_ : xs.length ≤ 9223372036854775807) (hb : ∀ x ∈ xs, 0 ≤ x ∧ x ≤ 255) :
    Calls Try.prog 3 #[.slice p xs.length cap] w fun e w' => e = .returned (.bool true) ∧ Fresh w w' := by
  by_cases hbig : (65536 : Int) < (xs.length : Int)
  · have hbb : decide ((65536 : Int) < (xs.length : Int)) = true := decide_eq_true hbig
    go_enter Try.func3, Try.ntmps3
    go_wp2_with (go_at_call 4; refine (vBig_d p cap xs.length _).mono ?_; rw [hbb]; rintro e w1 ⟨rfl, rfl⟩)
    go_ret
    exact ⟨rfl, frefl _⟩
  have hbb : decide ((65536 : Int) < (xs.length : Int)) = false := decide_eq_false hbig
  have HDR := Lib.hid (drawAreDisjoint_any p cap xs w ⟨hI, hb, by omega⟩)
  clear hI hb
  go_enter Try.func3, Try.ntmps3
  go_wp2_with (go_at_call 4; refine (vBig_d p cap xs.length _).mono ?_; rw [hbb]; rintro e w1 ⟨rfl, rfl⟩)
  refine (HDR.out).mono ?_
  rintro e w1 ⟨v, n, v2, A, v3, B, k, rfl, hn1, hA1, hB1, hf1⟩
  obtain ⟨q, c, p', d, rfl⟩ := hn1.aggD
  obtain ⟨sa, qa, la, ca, rfl⟩ := hA1.aggD
  obtain ⟨sb, qb, lb, cb, rfl⟩ := hB1.aggD
  obtain ⟨W2, hW2, hsz2, hf2, r1, r2, r3⟩ := three_rows w1 [.slice q n.nodes.length c, .slice p' n.fibers.length d] [.int .i64 sa, .slice qa la ca] [.int .i64 sb, .slice qb lb cb] 27 30 30
  obtain ⟨bN, hbN⟩ : ∃ b, b = w1.heap.size := ⟨_, rfl⟩
  obtain ⟨bA, hbA⟩ : ∃ b, b = w1.heap.size + 1 := ⟨_, rfl⟩
  obtain ⟨bB, hbB⟩ : ∃ b, b = w1.heap.size + 1 + 1 := ⟨_, rfl⟩
  rw [← hbB] at r3
  rw [← hbA] at r2
  rw [← hbN] at r1
  have HN2 := Lib.hid (hn1.keep hf2)
  have HA2 := Lib.hid (hA1.keep hf2)
  have HB2 := Lib.hid (hB1.keep hf2)
  have HF2 := Lib.hid (fstep hf1 hf2)
  have HR1 := Lib.hid r1
  have HR2 := Lib.hid r2
  have HR3 := Lib.hid r3
  have HC : Hid (∀ W, Fresh W2 W → W.cell? ⟨bN, 0, none⟩ = some (.slice q n.nodes.length c) ∧ W.cell? ⟨bN, 1, none⟩ = some (.slice p' n.fibers.length d) ∧ W.cell? ⟨bA, 0, none⟩ = some (.int .i64 sa) ∧ W.cell? ⟨bA, 1, none⟩ = some (.slice qa la ca) ∧ W.cell? ⟨bB, 0, none⟩ = some (.int .i64 sb) ∧ W.cell? ⟨bB, 1, none⟩ = some (.slice qb lb cb)) := fun W hW =>
    ⟨(r1.keep hW).cell (i := 0) rfl, (r1.keep hW).cell (i := 1) rfl, (r2.keep hW).cell (i := 0) rfl, (r2.keep hW).cell (i := 1) rfl, (r3.keep hW).cell (i := 0) rfl, (r3.keep hW).cell (i := 1) rfl⟩
  obtain ⟨x, hx⟩ : ∃ x, x = (adF n A B 1).1 := ⟨_, rfl⟩
  obtain ⟨y, hy⟩ : ∃ y, y = (adF n A B 2).1 := ⟨_, rfl⟩
  obtain ⟨z, hz⟩ : ∃ z, z = (adF n A B 3).1 := ⟨_, rfl⟩
  obtain ⟨ok, hok⟩ : ∃ ok, ok = adB n A B := ⟨_, rfl⟩
  obtain ⟨cr, hcr⟩ : ∃ cr, cr = crB n A B := ⟨_, rfl⟩
  have HD1 : Hid (∀ W, Fresh W2 W → Calls Try.prog 6 #[.agg #[.slice q n.nodes.length c, .slice p' n.fibers.length d], .agg #[.int .i64 sa, .slice qa la ca], .agg #[.int .i64 sb, .slice qb lb cb], .int .i64 1] W fun e w' => e = .returned (.tuple #[.bool x, .bool ok]) ∧ Fresh W w') := fun W hW => by
    rw [hx, hok, ← adF_ok (n := n) (A := A) (B := B) (k := 1) (by decide)]
    exact areDisjoint_any _ n _ _ A B 1 W (HN2.out.keep hW) (HA2.out.keep hW) (HB2.out.keep hW)
  have HD2 : Hid (∀ W, Fresh W2 W → Calls Try.prog 6 #[.agg #[.slice q n.nodes.length c, .slice p' n.fibers.length d], .agg #[.int .i64 sa, .slice qa la ca], .agg #[.int .i64 sb, .slice qb lb cb], .int .i64 2] W fun e w' => e = .returned (.tuple #[.bool y, .bool ok]) ∧ Fresh W w') := fun W hW => by
    rw [hy, hok, ← adF_ok (n := n) (A := A) (B := B) (k := 2) (by decide)]
    exact areDisjoint_any _ n _ _ A B 2 W (HN2.out.keep hW) (HA2.out.keep hW) (HB2.out.keep hW)
  have HD3 : Hid (∀ W, Fresh W2 W → Calls Try.prog 6 #[.agg #[.slice q n.nodes.length c, .slice p' n.fibers.length d], .agg #[.int .i64 sa, .slice qa la ca], .agg #[.int .i64 sb, .slice qb lb cb], .int .i64 3] W fun e w' => e = .returned (.tuple #[.bool z, .bool ok]) ∧ Fresh W w') := fun W hW => by
    rw [hz, hok, ← adF_ok (n := n) (A := A) (B := B) (k := 3) (by decide)]
    exact areDisjoint_any _ n _ _ A B 3 W (HN2.out.keep hW) (HA2.out.keep hW) (HB2.out.keep hW)
  have HDS : Hid (∀ W, Fresh W2 W → Calls Try.prog 7 #[.agg #[.slice q n.nodes.length c, .slice p' n.fibers.length d], .agg #[.int .i64 sa, .slice qa la ca], .agg #[.int .i64 sb, .slice qb lb cb], .int .i64 1] W fun e w' => e = .returned (.tuple #[.bool x, .bool ok]) ∧ Fresh W w') := fun W hW => by
    rw [hx, hok, ← adF_ok (n := n) (A := A) (B := B) (k := 1) (by decide)]
    exact specAreDisjoint_any _ n _ _ A B 1 W (HN2.out.keep hW) (HA2.out.keep hW) (HB2.out.keep hW)
  have HCI : Hid (∀ W, Fresh W2 W → Calls Try.prog 8 #[.agg #[.slice q n.nodes.length c, .slice p' n.fibers.length d], .agg #[.int .i64 sa, .slice qa la ca], .agg #[.int .i64 sb, .slice qb lb cb]] W fun e w' => ∃ (p : Option Addr) (N c : Nat), e = .returned (.tuple #[.slice p N c, .bool cr]) ∧ Fresh W w' ∧ (ok = true → cr = true ∧ ((N : Int) == 0) = y)) := fun W hW => by
    rw [hcr]
    refine (implCommonRisks_any _ n _ _ A B W (HN2.out.keep hW) (HA2.out.keep hW) (HB2.out.keep hW)).mono ?_
    rintro e w' ⟨p, N, c, he, hf, hr⟩
    refine ⟨p, N, c, he, hf, fun ho => ?_⟩
    rw [hok] at ho
    have h1 := adB_cr ho
    exact ⟨h1, by rw [hr h1, risks_law ho, hy]⟩
  have HCS : Hid (∀ W, Fresh W2 W → Calls Try.prog 9 #[.agg #[.slice q n.nodes.length c, .slice p' n.fibers.length d], .agg #[.int .i64 sa, .slice qa la ca], .agg #[.int .i64 sb, .slice qb lb cb]] W fun e w' => ∃ (p : Option Addr) (N c : Nat), e = .returned (.tuple #[.slice p N c, .bool cr]) ∧ Fresh W w') := fun W hW => by
    rw [hcr]
    exact specCommonRisks_any _ n _ _ A B W (HN2.out.keep hW) (HA2.out.keep hW) (HB2.out.keep hW)
  have HYX : Hid (y = true → x = true) := fun h => by rw [hx]; rw [hy] at h; exact adF_law h
  have HZX : Hid (z = true → x = true) := fun h => by rw [hx]; rw [hz] at h; exact adF_law h
  have HW2 := Lib.hid hW2
  have HBN := Lib.hid hbN
  have HBA := Lib.hid hbA
  have HBB := Lib.hid hbB
  clear hf1 hf2 hn1 hA1 hB1 hW2 hbN hbA hbB r1 r2 r3 hsz2 HDR hbb hx hy hz hok hcr HN2 HA2 HB2
  go_upto_region 4 with fail
  rw [← HW2.out, ← HBB.out, ← HBA.out, ← HBN.out]
  obtain ⟨c0, c1, c2, c3, c4, c5⟩ := HC.out _ (frefl _)
  go_wp2_with fail
  refine (HD1.out _ (frefl _)).mono ?_
  rintro e w3 ⟨rfl, hf3⟩
  have HF3 := Lib.hid hf3
  clear hf3 c0 c1 c2 c3 c4 c5
  obtain ⟨c0, c1, c2, c3, c4, c5⟩ := HC.out _ HF3.out
  go_wp2_with fail
  refine (HD2.out _ HF3.out).mono ?_
  rintro e w4 ⟨rfl, hf4⟩
  have HF4 := Lib.hid (fstep HF3.out hf4)
  clear hf4 c0 c1 c2 c3 c4 c5
  obtain ⟨c0, c1, c2, c3, c4, c5⟩ := HC.out _ HF4.out
  go_wp2_with fail
  refine (HD3.out _ HF4.out).mono ?_
  rintro e w5 ⟨rfl, hf5⟩
  have HF5 := Lib.hid (fstep HF4.out hf5)
  clear hf5 c0 c1 c2 c3 c4 c5
  obtain ⟨c0, c1, c2, c3, c4, c5⟩ := HC.out _ HF5.out
  go_wp2_with fail
  refine (HDS.out _ HF5.out).mono ?_
  rintro e w6 ⟨rfl, hf6⟩
  have HF6 := Lib.hid (fstep HF5.out hf6)
  clear hf6 c0 c1 c2 c3 c4 c5
  obtain ⟨c0, c1, c2, c3, c4, c5⟩ := HC.out _ HF6.out
  have hxx : (x != x) = false := by simp
  have hoo : (ok != ok) = false := by simp
  cases y with
  | true =>
    obtain rfl := HYX.out rfl
    cases z with
    | true =>
      go_wp2_with fail
      refine (HCI.out _ HF6.out).mono ?_
      rintro e w7 ⟨p7, N7, c7, rfl, hf7, hr7⟩
      have HF7 := Lib.hid (fstep HF6.out hf7)
      have HR7 := Lib.hid hr7
      clear hf7 hr7 c0 c1 c2 c3 c4 c5
      obtain ⟨c0, c1, c2, c3, c4, c5⟩ := HC.out _ HF7.out
      go_wp2_with fail
      refine (HCS.out _ HF7.out).mono ?_
      rintro e w8 ⟨p8, N8, c8, rfl, hf8⟩
      have HF8 := Lib.hid (fstep HF7.out hf8)
      clear hf8 c0 c1 c2 c3 c4 c5
      have hcrr : (cr != cr) = false := by simp
      cases ok with
      | false =>
        go_wp2
        go_ret
        exact ⟨rfl, fstep HF2.out HF8.out⟩
      | true =>
        obtain ⟨rfl, hN⟩ := HR7.out rfl
        go_wp2
        go_ret
        exact ⟨rfl, fstep HF2.out HF8.out⟩
    | false =>
      go_wp2_with fail
      refine (HCI.out _ HF6.out).mono ?_
      rintro e w7 ⟨p7, N7, c7, rfl, hf7, hr7⟩
      have HF7 := Lib.hid (fstep HF6.out hf7)
      have HR7 := Lib.hid hr7
      clear hf7 hr7 c0 c1 c2 c3 c4 c5
      obtain ⟨c0, c1, c2, c3, c4, c5⟩ := HC.out _ HF7.out
      go_wp2_with fail
      refine (HCS.out _ HF7.out).mono ?_
      rintro e w8 ⟨p8, N8, c8, rfl, hf8⟩
      have HF8 := Lib.hid (fstep HF7.out hf8)
      clear hf8 c0 c1 c2 c3 c4 c5
      have hcrr : (cr != cr) = false := by simp
      cases ok with
      | false =>
        go_wp2
        go_ret
        exact ⟨rfl, fstep HF2.out HF8.out⟩
      | true =>
        obtain ⟨rfl, hN⟩ := HR7.out rfl
        go_wp2
        go_ret
        exact ⟨rfl, fstep HF2.out HF8.out⟩
  | false =>
    cases z with
    | true =>
      obtain rfl := HZX.out rfl
      go_wp2_with fail
      refine (HCI.out _ HF6.out).mono ?_
      rintro e w7 ⟨p7, N7, c7, rfl, hf7, hr7⟩
      have HF7 := Lib.hid (fstep HF6.out hf7)
      have HR7 := Lib.hid hr7
      clear hf7 hr7 c0 c1 c2 c3 c4 c5
      obtain ⟨c0, c1, c2, c3, c4, c5⟩ := HC.out _ HF7.out
      go_wp2_with fail
      refine (HCS.out _ HF7.out).mono ?_
      rintro e w8 ⟨p8, N8, c8, rfl, hf8⟩
      have HF8 := Lib.hid (fstep HF7.out hf8)
      clear hf8 c0 c1 c2 c3 c4 c5
      have hcrr : (cr != cr) = false := by simp
      cases ok with
      | false =>
        go_wp2
        go_ret
        exact ⟨rfl, fstep HF2.out HF8.out⟩
      | true =>
        obtain ⟨rfl, hN⟩ := HR7.out rfl
        go_wp2
        go_ret
        exact ⟨rfl, fstep HF2.out HF8.out⟩
    | false =>
      go_wp2_with fail
      refine (HCI.out _ HF6.out).mono ?_
      rintro e w7 ⟨p7, N7, c7, rfl, hf7, hr7⟩
      have HF7 := Lib.hid (fstep HF6.out hf7)
      have HR7 := Lib.hid hr7
      clear hf7 hr7 c0 c1 c2 c3 c4 c5
      obtain ⟨c0, c1, c2, c3, c4, c5⟩ := HC.out _ HF7.out
      go_wp2_with fail
      refine (HCS.out _ HF7.out).mono ?_
      rintro e w8 ⟨p8, N8, c8, rfl, hf8⟩
      have HF8 := Lib.hid (fstep HF7.out hf8)
      clear hf8 c0 c1 c2 c3 c4 c5
      have hcrr : (cr != cr) = false := by simp
      cases ok with
      | false =>
        go_wp2
        go_ret
        exact ⟨rfl, fstep HF2.out HF8.out⟩
      | true =>
        obtain ⟨rfl, hN⟩ := HR7.out rfl
        go_wp2
        go_ret
        exact ⟨rfl, fstep HF2.out HF8.out⟩
end Go.Proofs.Ytlapicgeokjpjaa
