/- Contracts: a light put into a plan by its number, the reference's side. -/
import Derived.Test.YtgiinjleehgkoaaGreatMvP
import Derived.Test.YtgiinjleehgkoaaGreatHd
import Derived.Test.YtgiinjleehgkoaaGreatKLt
namespace Go.Proofs.YtgiinjleehgkoaaGreat
open Go.RowKit Go.PlainAid

theorem kq6 {w1 w2 : World} {a b : Nat} {v v0 v1 v2 v3 v4 : Value} (h : w1.cell? ⟨a, 2, none⟩ = some v ∧ w1.cell? ⟨b, 0, none⟩ = some v0 ∧ w1.cell? ⟨b, 1, none⟩ = some v1 ∧ w1.cell? ⟨b, 2, none⟩ = some v2 ∧ w1.cell? ⟨b, 3, none⟩ = some v3 ∧ w1.cell? ⟨b, 4, none⟩ = some v4) (hb : Fresh w1 w2) :
    w2.cell? ⟨a, 2, none⟩ = some v ∧ w2.cell? ⟨b, 0, none⟩ = some v0 ∧ w2.cell? ⟨b, 1, none⟩ = some v1 ∧ w2.cell? ⟨b, 2, none⟩ = some v2 ∧ w2.cell? ⟨b, 3, none⟩ = some v3 ∧ w2.cell? ⟨b, 4, none⟩ = some v4 :=
  ⟨fkeep hb h.1, fkeep hb h.2.1, fkeep hb h.2.2.1, fkeep hb h.2.2.2.1, fkeep hb h.2.2.2.2.1, fkeep hb h.2.2.2.2.2⟩
set_option maxHeartbeats 8000000 in
set_option maxRecDepth 100000 in
theorem l9Put_any (v u : Value) (P : PlanV) (X : LtV) (w : World) (h : PlIn w v P) (hx : LgIn w u X) (h24 : P.lights.length ≤ 1024) : Calls Tryz.prog 35 #[v, u] w fun e w' => ∃ v', e = .returned v' ∧ PlOwn w' w.heap.size v' ⟨P.net, insF P.lights X⟩ ∧ Fresh w w' := by
  have HP := Lib.hid h
  obtain ⟨q, c, p, d, r, e0, l, rfl, _, _, hs, hv, _⟩ := h.parts
  have hn := hs.1
  have hn24 : l.length ≤ 1024 := by rw [hv] at h24; simpa using h24
  clear h24
  obtain ⟨⟨xi, ⟨xs, xq, xcap, xl⟩, xf, xn⟩, rfl, hxI, hxn, rfl⟩ := hx
  simp only at hxI hxn ⊢
  obtain ⟨nn, hnn⟩ : ∃ k, k = P.net.nodes.length := ⟨_, rfl⟩
  obtain ⟨nf, hnf⟩ : ∃ k, k = P.net.fibers.length := ⟨_, rfl⟩
  rw [← hnn, ← hnf] at HP ⊢
  obtain ⟨W3, hW3, hsz3, hf3, r1, r2, r3⟩ := three_rows w [.slice q nn c, .slice p nf d, .slice r l.length e0] [.int .i64 xi, .int .i64 xs, .slice xq xl.length xcap, .int .i64 xf, .int .i64 xn] [.slice none 0 0, .slice none 0 0, .slice none 0 0] 41 69 41
  have HC := Lib.hid (l9Own_any _ P W3 (HP.out.keep hf3))
  have HF3 := Lib.hid hf3
  have HBX3 := Lib.hid r2
  have HRZ3 := Lib.hid r3
  have HW3 := Lib.hid hW3
  have HNN := Lib.hid hnn
  have HNF := Lib.hid hnf
  have HV0 := Lib.hid hv
  have HXI3 := Lib.hid (hxI.keep hf3)
  have hsz := hf3.size
  clear h hs hf3 r1 r2 r3 hW3 hnn hnf hv hxI
  go_enter Tryz.func35, Tryz.ntmps35
  go_wp2_with fail
  rw [← HW3.out]
  refine (HC.out).mono ?_
  rintro e w1 ⟨v1, rfl, ho, hb⟩
  obtain ⟨q', c', p', d', r', e', l', rfl, o1, o2, o3, o4, o5, o6, o7, o8, o9, o10⟩ := ho
  rw [← HNN.out] at o7 ⊢
  rw [← HNF.out]
  have hll : l'.length = l.length := by
    have e1 := congrArg List.length o6
    have e2 := congrArg List.length HV0.out
    simp at e1 e2; omega
  have hn' : l'.length ≤ 1024 := by omega
  obtain ⟨W4, hW4⟩ : ∃ W4, W4 = w1.alloc (.cells #[.slice q' nn c', .slice p' nf d', .slice r' l'.length e'] 41) := ⟨_, rfl⟩
  have hf4 : Fresh w1 W4 := by rw [hW4]; exact fnew (frefl _) _
  have hr4 : RowAt W4 w1.heap.size 41 [.slice q' nn c', .slice p' nf d', .slice r' l'.length e'] := by rw [hW4]; exact RowAt.new _ _ _
  have HR4 := Lib.hid hr4
  have HBX4 := Lib.hid ((HBX3.out.keep hb).keep hf4)
  have HRZ4 := Lib.hid ((HRZ3.out.keep hb).keep hf4)
  have HXI4 := Lib.hid ((HXI3.out.keep hb).keep hf4)
  have HF4 := Lib.hid (fstep HF3.out (fstep hb hf4))
  have HO1 := Lib.hid ((o1.mono hsz).keep hf4)
  have HO2 := Lib.hid ((o2.mono hsz).keep hf4)
  have HO3 := Lib.hid (o3.keep hf4)
  have HO4 : Hid (∀ x ∈ l', Own W4 w.heap.size 3 x.r.q (x.r.fibs.map iv)) := fun x hx => ((o4 x hx).mono hsz).keep hf4
  have HLT : Hid (Lts W4 r' l') := ⟨HO3.out.cells, fun x hx => (HO4.out x hx).cells⟩
  have HD := Lib.hid o5
  have HV := Lib.hid o6
  have HO7 := Lib.hid o7
  have HO9 := Lib.hid (And.intro o9 o10)
  have HLL := Lib.hid hll
  have hwz := hb.size
  have hsz4 : W4.heap.size = w1.heap.size + 1 := by rw [hW4]; simp
  have HSZ4 := Lib.hid hsz4
  have HW4 := Lib.hid hW4
  obtain ⟨pos, hpos⟩ : ∃ k, k = posF (l'.map LL.val) xi := ⟨_, rfl⟩
  have HPOS := Lib.hid hpos
  have hple : pos ≤ l'.length := by have := posF_le (l'.map LL.val) xi; rw [← hpos] at this; simpa using this
  clear hb hf4 hW4 hr4 o1 o2 o3 o4 o5 o6 HC o7 o9 o10 hll hsz4 hpos
  go_wp2
  rw [← HW4.out]
  go_loopw [6] (fun i wr => ∃ k : Nat, k ≤ pos ∧ i = .int .i64 k ∧ Fresh W4 wr) (fun i _ => l'.length - (intOf i).toNat)
  case atStart => exact ⟨0, Nat.zero_le _, rfl, frefl _⟩
  case round =>
    obtain ⟨k, hk, rfl, hf⟩ := hrel
    have HF := Lib.hid hf
    have hp2 := (HR4.out.keep hf).cell (i := 2) rfl
    have hz0 := (HBX4.out.keep hf).cell (i := 0) rfl
    by_cases hgo : k < pos
    · have hlt : k < l'.length := by omega
      have hltz : (k : Int) < (l'.length : Int) := by omega
      obtain ⟨b, off, y, hrr, hy, hm, _, hc0, _, _, _, _⟩ := (HLT.out.keep hf).at hlt
      have hid : y.id < xi := posF_at (l := l'.map LL.val) (y := y.val) (by rw [← HPOS.out]; exact hgo) (by rw [List.getElem?_map, hy]; rfl)
      rw [hrr] at hp2
      clear hy hm hrr
      have hp2w := fun xa : After wr => akeep hp2 xa
      have hz0w := fun xa : After wr => akeep hz0 xa
      have hc0w := fun xa : After wr => akeep hc0 xa
      go_wp2
      refine wp_region_after (by kernel_rfl) (by kernel_rfl) ?_
      repeat (go_big_quiet_step (fail))
      refine wpQuiet_nil ?_
      rintro _ ⟨xa, rfl⟩
      have hxa := xa.h
      go_wp2
      go_roundw
      case rel => exact ⟨k + 1, by omega, by go_num, fstep HF.out hxa⟩
      case measure => simp [intOf]; omega
    · obtain rfl : k = pos := by omega
      rcases Nat.lt_or_ge k l'.length with hlt | hlt
      focus
        have hltz : (k : Int) < (l'.length : Int) := by omega
        obtain ⟨b, off, y, hrr, hy, hm, _, hc0, _, _, _, _⟩ := (HLT.out.keep hf).at hlt
        have hid : ¬ y.id < xi := posF_stop (l := l'.map LL.val) (y := y.val) (by rw [← HPOS.out, List.getElem?_map, hy]; rfl)
        rw [hrr] at hp2
        clear hy hm hrr hgo hf
        have hp2w := fun xa : After wr => akeep hp2 xa
        have hz0w := fun xa : After wr => akeep hz0 xa
        have hc0w := fun xa : After wr => akeep hc0 xa
        go_wp2
        refine wp_region_after (by kernel_rfl) (by kernel_rfl) ?_
        repeat (go_big_quiet_step (fail))
        refine wpQuiet_nil ?_
        rintro _ ⟨xa, rfl⟩
        have hxa := xa.h
        go_wp2
        clear hc0 hid hp2 hz0 hltz hp2w hz0w hc0w
      rotate_left
      focus
        have hltz : ¬ (k : Int) < (l'.length : Int) := by omega
        clear hgo hf
        have hp2w := fun xa : After wr => akeep hp2 xa
        have hltd : decide (k < l'.length) = false := decide_eq_false (by omega)
        go_wp2
        refine wp_region_after (by kernel_rfl) (by kernel_rfl) ?_
        repeat (go_big_quiet_step (fail))
        refine wpQuiet_nil ?_
        rintro _ ⟨xa, rfl⟩
        have hxa := xa.h
        go_wp2
        clear hp2 hz0 hltz hp2w hltd hlt
      all_goals (
        obtain ⟨W6, hW6⟩ : ∃ W, W = xa.w' := ⟨_, rfl⟩
        have hf6 : Fresh W4 W6 := by rw [hW6]; exact fstep HF.out hxa
        rw [← hW6]
        clear hxa
        have hr6 := HR4.out.keep hf6
        have hx6 := HBX4.out.keep hf6
        have HO6 := Lib.hid (HO3.out.keep hf6)
        have HR6 := Lib.hid hr6
        have HX6 := Lib.hid hx6
        have HRZ6 := Lib.hid (HRZ4.out.keep hf6)
        have HXI6 := Lib.hid (HXI4.out.keep hf6)
        have hF6 := fstep HF4.out hf6
        have HF6 := Lib.hid hF6
        have HF46 := Lib.hid hf6
        have hsz6 := hf6.size
        have hsz4 := HSZ4.out
        have hgx : w.heap.size + 1 < w1.heap.size := by have := HBX3.out.lt; omega
        have hv6 := hr6.cell (i := 2) rfl
        have HSS : W6.cell? ⟨w1.heap.size, 2, none⟩ = some (.slice r' l'.length e') ∧ W6.cell? ⟨w.heap.size + 1, 0, none⟩ = some (.int .i64 xi) ∧ W6.cell? ⟨w.heap.size + 1, 1, none⟩ = some (.int .i64 xs) ∧ W6.cell? ⟨w.heap.size + 1, 2, none⟩ = some (.slice xq xl.length xcap) ∧ W6.cell? ⟨w.heap.size + 1, 3, none⟩ = some (.int .i64 xf) ∧ W6.cell? ⟨w.heap.size + 1, 4, none⟩ = some (.int .i64 xn) := ⟨hv6, hx6.cell (i := 0) rfl, hx6.cell (i := 1) rfl, hx6.cell (i := 2) rfl, hx6.cell (i := 3) rfl, hx6.cell (i := 4) rfl⟩
        clear hv6
        have HLR : Hid (∀ g o, r' = some ⟨g, o, none⟩ → g < W6.heap.size) := fun g o e => (HO6.out.blk g o e).2
        have HTK : Hid (((l'.take k).flatMap llC).length = k * 5) := by show _ = _; rw [flat_len llC 5 (fun _ => rfl)]; simp; omega
        have HDK : Hid (((l'.drop k).flatMap llC).length = (l'.length - k) * 5) := by show _ = _; rw [flat_len llC 5 (fun _ => rfl)]; simp
        have HPA : Hid (∀ W, Own W W3.heap.size 69 r' (l'.flatMap llC) → Cells W r' ((l'.take k).flatMap llC)) := fun W hW => part_a k hW
        have b1 : k ≤ e' := by have := HO9.out.1; omega
        have b2 : k ≤ l'.length := hple
        have n1 : k ≤ 1048576 := by omega
        have n2 : l'.length - k ≤ 1048576 := by omega
        have n5 : w.heap.size + 1 + 1 ≠ w1.heap.size := by have := HRZ3.out.lt; omega
        have n6 : w.heap.size + 1 ≠ w1.heap.size := by omega
        have n7 : w.heap.size ≤ w1.heap.size := by omega
        have n8 : w.heap.size + 1 < W6.heap.size := by omega
        have hk1 : k + 1 ≤ 1025 := by omega
        obtain ⟨A, hA, hPB⟩ : ∃ A : Option Addr, (∀ W, Own W W3.heap.size 69 r' (l'.flatMap llC) → Cells W A ((l'.drop k).flatMap llC)) ∧ ((r' = none ∧ A = none) ∨ ∃ g, r' = some ⟨g, 0, none⟩ ∧ A = if e' = k then (some (⟨g, 0, none⟩ : Addr)) else some ⟨g, k * 5, none⟩) := by
          rcases HO6.out with ⟨rfl, h0⟩ | ⟨g, sp, rfl, _, hW⟩
          · refine ⟨none, fun W hW => ?_, Or.inl ⟨rfl, rfl⟩⟩
            left
            have h1 := congrArg List.length h0
            rw [flat_len llC 5 (fun _ => rfl)] at h1
            have h2 : l' = [] := List.eq_nil_of_length_eq_zero (by simp at h1; omega)
            rw [h2]; simp
          · exact ⟨_, fun W hW => part_b hple HO9.out.1 hW, Or.inr ⟨g, rfl, rfl⟩⟩
        have HPB := Lib.hid hA
        clear hF6 hf6 hW6 hr6 hx6 hsz4 hA hple
        have HXS : Hid (([iv xi, iv xs, .slice xq xl.length xcap, iv xf, iv xn] : List Value).length = 5) := rfl
        rcases hPB with ⟨rfl, rfl⟩ | ⟨g, rfl, hA⟩
        rotate_left
        focus
          have hA' := hA.symm
          clear hA
        all_goals (
          refine hd_start (n := 15) (S := fun w' => w'.cell? ⟨w1.heap.size, 2, none⟩ = some (.slice _ l'.length e') ∧ w'.cell? ⟨w.heap.size + 1, 0, none⟩ = some (.int .i64 xi) ∧ w'.cell? ⟨w.heap.size + 1, 1, none⟩ = some (.int .i64 xs) ∧ w'.cell? ⟨w.heap.size + 1, 2, none⟩ = some (.slice xq xl.length xcap) ∧ w'.cell? ⟨w.heap.size + 1, 3, none⟩ = some (.int .i64 xf) ∧ w'.cell? ⟨w.heap.size + 1, 4, none⟩ = some (.int .i64 xn)) (by kernel_rfl) (by kernel_rfl) (kq6 HSS (fdrew (frefl _))) (fun hHeld => ?_)
          obtain ⟨c0, hc0⟩ : ∃ W, W = W6.drew := ⟨_, rfl⟩
          rw [← hc0] at hHeld ⊢
          have fc0 : Fresh W6 c0 := by rw [hc0]; exact fdrew (frefl _)
          clear hc0
          refine hd_take (i := 1) (v := ?_) rfl (by kernel_rfl) (by kernel_rfl) (by kernel_rfl) (by kernel_rfl) (fun _ _ _ h => h) (by assumption) (Or.inl ⟨by rfl, ?_⟩) ?_
          rotate_left
          · (intro w hSw; (try dsimp only at hSw); go_simp; first | done | with_reducible rfl)
          try simp only [Act.put, List.getElem_toArray, List.getElem_cons_succ, List.getElem_cons_zero, List.setIfInBounds_toArray, List.set_cons_zero, List.set_cons_succ]
          refine hd_take (i := 2) (v := ?_) rfl (by kernel_rfl) (by kernel_rfl) (by kernel_rfl) (by kernel_rfl) (fun _ _ _ h => h) (by assumption) (Or.inl ⟨by rfl, ?_⟩) ?_
          rotate_left
          · (intro w hSw; (try dsimp only at hSw); go_simp; first | done | with_reducible rfl)
          try simp only [Act.put, List.getElem_toArray, List.getElem_cons_succ, List.getElem_cons_zero, List.setIfInBounds_toArray, List.set_cons_zero, List.set_cons_succ]
          refine hd_take (i := 3) (v := ?_) rfl (by kernel_rfl) (by kernel_rfl) (by kernel_rfl) (by kernel_rfl) (fun _ _ _ h => h) (by assumption) (Or.inl ⟨by rfl, ?_⟩) ?_
          rotate_left
          · (intro w hSw; (try dsimp only at hSw); go_simp; first | done | with_reducible rfl)
          try simp only [Act.put, List.getElem_toArray, List.getElem_cons_succ, List.getElem_cons_zero, List.setIfInBounds_toArray, List.set_cons_zero, List.set_cons_succ]
          refine hd_take (i := 4) (v := ?_) rfl (by kernel_rfl) (by kernel_rfl) (by kernel_rfl) (by kernel_rfl) (fun _ _ _ h => h) (by assumption) (Or.inl ⟨by rfl, ?_⟩) ?_
          rotate_left
          · (intro w hSw; (try dsimp only at hSw); go_simp; first | done | with_reducible rfl)
          try simp only [Act.put, List.getElem_toArray, List.getElem_cons_succ, List.getElem_cons_zero, List.setIfInBounds_toArray, List.set_cons_zero, List.set_cons_succ]
          refine hd_take (i := 6) (v := ?_) rfl (by kernel_rfl) (by kernel_rfl) (by kernel_rfl) (by kernel_rfl) (fun _ _ _ h => h) (by assumption) (Or.inl ⟨by rfl, ?_⟩) ?_
          rotate_left
          · (intro w hSw; (try dsimp only at hSw); go_simp; first | done | with_reducible rfl)
          try simp only [Act.put, List.getElem_toArray, List.getElem_cons_succ, List.getElem_cons_zero, List.setIfInBounds_toArray, List.set_cons_zero, List.set_cons_succ]
          refine hd_take (i := 10) (v := ?_) rfl (by kernel_rfl) (by kernel_rfl) (by kernel_rfl) (by kernel_rfl) (fun _ _ _ h => h) (by assumption) (Or.inl ⟨by rfl, ?_⟩) ?_
          rotate_left
          · (intro w hSw; (try dsimp only at hSw); go_simp; first | done | with_reducible rfl)
          try simp only [Act.put, List.getElem_toArray, List.getElem_cons_succ, List.getElem_cons_zero, List.setIfInBounds_toArray, List.set_cons_zero, List.set_cons_succ]
          refine hd_take (i := 11) (v := ?_) rfl (by kernel_rfl) (by kernel_rfl) (by kernel_rfl) (by kernel_rfl) (fun _ _ _ h => h) (by assumption) (Or.inl ⟨by rfl, ?_⟩) ?_
          rotate_left
          · (intro w hSw; (try dsimp only at hSw); go_simp; first | done | with_reducible rfl)
          try simp only [Act.put, List.getElem_toArray, List.getElem_cons_succ, List.getElem_cons_zero, List.setIfInBounds_toArray, List.set_cons_zero, List.set_cons_succ]
          refine hd_take (i := 12) (v := ?_) rfl (by kernel_rfl) (by kernel_rfl) (by kernel_rfl) (by kernel_rfl) (fun _ _ _ h => h) (by assumption) (Or.inl ⟨by rfl, ?_⟩) ?_
          rotate_left
          · (intro w hSw; (try dsimp only at hSw); go_simp; first | done | with_reducible rfl)
          try simp only [Act.put, List.getElem_toArray, List.getElem_cons_succ, List.getElem_cons_zero, List.setIfInBounds_toArray, List.set_cons_zero, List.set_cons_succ]
          refine hd_take (i := 13) (v := ?_) rfl (by kernel_rfl) (by kernel_rfl) (by kernel_rfl) (by kernel_rfl) (fun _ _ _ h => h) (by assumption) (Or.inl ⟨by rfl, ?_⟩) ?_
          rotate_left
          · (intro w hSw; (try dsimp only at hSw); go_simp; first | done | with_reducible rfl)
          try simp only [Act.put, List.getElem_toArray, List.getElem_cons_succ, List.getElem_cons_zero, List.setIfInBounds_toArray, List.set_cons_zero, List.set_cons_succ]
          refine hd_one (i := 0) rfl (by kernel_rfl) (by kernel_rfl) (fun K hK => ?_)
          (go_simp; obtain ⟨wa, hwa⟩ : ∃ W, W = c0.alloc (.cells #[] 69) := ⟨_, rfl⟩; rw [← hwa]; have fa : Fresh W6 wa := (by rw [hwa]; exact fnew fc0 _); have ra : RowAt wa c0.heap.size 69 [] := (by rw [hwa]; exact RowAt.new _ _ _); have ga : W6.heap.size ≤ c0.heap.size := fc0.size; clear hwa)
          refine hK.out _ _ ?_ (fun hHeld => ?_)
          · exact kq6 HSS fa
          clear hK K
          try simp only [Act.put, List.getElem_toArray, List.getElem_cons_succ, List.getElem_cons_zero, List.setIfInBounds_toArray, List.set_cons_zero, List.set_cons_succ]
          refine hd_one (i := 5) rfl (by kernel_rfl) (by kernel_rfl) (fun K hK => ?_)
          (refine step_app_m (some 32) rfl Tryz.underlying39 infoLt rfl (by decide) (by decide) W6 (.slice (some ⟨c0.heap.size, 0, none⟩) 0 0) 0 [] _ k e' ((l'.take k).flatMap llC) rfl _ _ rfl rfl (ownsRow_zero ra ga) rfl (HPA.out _ (HO6.out.keep fa)) HTK.out (ones_ll _) (by omega) n1 fa ?_; rw [Nat.zero_add, List.nil_append]; intro q1 c1 x1 own1 f1 hk1)
          refine hK.out _ _ ?_ (fun hHeld => ?_)
          · exact kq6 HSS f1
          clear hK K
          try simp only [Act.put, List.getElem_toArray, List.getElem_cons_succ, List.getElem_cons_zero, List.setIfInBounds_toArray, List.set_cons_zero, List.set_cons_succ]
          refine hd_one (i := 7) rfl (by kernel_rfl) (by kernel_rfl) (fun K hK => ?_)
          (go_simp; go_at_call 67; refine (l9Copy_any ⟨xi, ⟨xs, xq, xcap, xl⟩, xf, xn⟩ _ (HXI6.out.keep f1) hxn).mono ?_; rintro e x2 ⟨qx, cx, rfl, hox, hb3⟩; have f2 := fstep f1 hb3; go_wp2_with fail)
          refine hK.out _ _ ?_ (fun hHeld => ?_)
          · exact kq6 HSS f2
          clear hK K
          try simp only [Act.put, List.getElem_toArray, List.getElem_cons_succ, List.getElem_cons_zero, List.setIfInBounds_toArray, List.set_cons_zero, List.set_cons_succ]
          refine hd_one (i := 8) rfl (by kernel_rfl) (by kernel_rfl) (fun K hK => ?_)
          (go_simp; obtain ⟨x3, hx3⟩ : ∃ W, W = x2.alloc (.cells #[.int .i64 xi, .int .i64 xs, .slice qx xl.length cx, .int .i64 xf, .int .i64 xn] 69) := ⟨_, rfl⟩; rw [← hx3]; have f23 : Fresh x2 x3 := (by rw [hx3]; exact fnew (frefl _) _); have f3 : Fresh W6 x3 := fstep f2 f23; have rb : RowAt x3 x2.heap.size 69 [iv xi, iv xs, .slice qx xl.length cx, iv xf, iv xn] := (by rw [hx3]; exact RowAt.new _ _ _); have own3 := ownsRow_keep own1 (fstep hb3 f23); clear hx3)
          refine hK.out _ _ ?_ (fun hHeld => ?_)
          · exact kq6 HSS f3
          clear hK K
          try simp only [Act.put, List.getElem_toArray, List.getElem_cons_succ, List.getElem_cons_zero, List.setIfInBounds_toArray, List.set_cons_zero, List.set_cons_succ]
          refine hd_one (i := 9) rfl (by kernel_rfl) (by kernel_rfl) (fun K hK => ?_)
          (refine step_app_m (some 36) rfl Tryz.underlying39 infoLt rfl (by decide) (by decide) W6 _ k ((l'.take k).flatMap llC) (some ⟨x2.heap.size, 0, none⟩) 1 1 [iv xi, iv xs, .slice qx xl.length cx, iv xf, iv xn] rfl _ _ rfl rfl own3 rfl rb.cells rfl (one_lt ⟨xi, ⟨xs, qx, cx, xl⟩, xf, xn⟩) n1 (by decide) f3 ?_; intro q4 c4 x4 own4 f4 hk4)
          refine hK.out _ _ ?_ (fun hHeld => ?_)
          · exact kq6 HSS f4
          clear hK K
          try simp only [Act.put, List.getElem_toArray, List.getElem_cons_succ, List.getElem_cons_zero, List.setIfInBounds_toArray, List.set_cons_zero, List.set_cons_succ]
          refine hd_one (i := 14) rfl (by kernel_rfl) (by kernel_rfl) (fun K hK => ?_)
          (refine step_app_m (some 41) rfl Tryz.underlying39 infoLt rfl (by decide) (by decide) W6 _ (k + 1) ((l'.take k).flatMap llC ++ [iv xi, iv xs, .slice qx xl.length cx, iv xf, iv xn]) _ (l'.length - k) (e' - k) ((l'.drop k).flatMap llC) rfl _ _ rfl rfl own4 rfl (HPB.out _ (HO6.out.keep f4)) HDK.out (ones_ll _) (by omega) n2 f4 ?_; intro q5 c5 x5 own5 f5 hk5)
          refine hK.out _ _ ?_ (fun hHeld => ?_)
          · exact kq6 HSS f5
          clear hK K
          try simp only [Act.put, List.getElem_toArray, List.getElem_cons_succ, List.getElem_cons_zero, List.setIfInBounds_toArray, List.set_cons_zero, List.set_cons_succ]
          refine hd_done (by kernel_rfl) ?_
          clear hHeld
          simp only [List.drop_succ_cons, List.drop_zero]
          have hpl := HR6.out.keep f5
          have y2 := hpl.cell (i := 2) rfl
          have yf := hpl.frozen 2
          have hps := hpl.set 2 (.slice q5 (k + 1 + (l'.length - k)) c5)
          have m0 := hps.cell (i := 0) rfl
          have m1 := hps.cell (i := 1) rfl
          have m2 := hps.cell (i := 2) rfl
          have hrz := (HRZ6.out.keep f5).setOther (o := 2) n5 (.slice q5 (k + 1 + (l'.length - k)) c5)
          have t0 := hrz.cell (i := 0) rfl
          have t1 := hrz.cell (i := 1) rfl
          have t2 := hrz.cell (i := 2) rfl
          have u0 := hrz.frozen 0
          have u1 := hrz.frozen 1
          have u2 := hrz.frozen 2
          have hfin := ((hrz.set 0 (.slice q' nn c')).set 1 (.slice p' nf d')).set 2 (.slice q5 (k + 1 + (l'.length - k)) c5)
          have k0 := hfin.cell (i := 0) rfl
          have k1 := hfin.cell (i := 1) rfl
          have k2 := hfin.cell (i := 2) rfl
          have HPLX := Lib.hid hpl
          have HRZX := Lib.hid hrz
          have HOWN5 := Lib.hid own5
          have HOX := Lib.hid hox
          have HFX := Lib.hid f5
          have HF1 := Lib.hid f1
          have HF23 := Lib.hid f23
          have HK4 := Lib.hid hk4
          have HK5 := Lib.hid hk5
          have hszx := f5.size
          clear hpl hrz own5 hox f5 f4 f3 f2 f1 f23 hb3 hk1 hk4 hk5 own1 own3 own4 rb ra ga fa fc0 hps hfin HSS
          go_wp2
          refine bodyPost_ret (v := .agg #[.slice q' nn c', .slice p' nf d', .slice q5 (k + 1 + (l'.length - k)) c5]) (by simp [results, Tryz.results35, go_sem, k0, k1, k2]) rfl ?_
          obtain ⟨q6, c6, hqc, hol, hcl1, hcl2⟩ := owns_cap HOWN5.out
          cases hqc
          obtain ⟨L, hL⟩ : ∃ L : List LL, L = l'.take k ++ ⟨xi, ⟨xs, qx, cx, xl⟩, xf, xn⟩ :: l'.drop k := ⟨_, rfl⟩
          have hkl : k ≤ l'.length := b2
          have hll : L.length = k + 1 + (l'.length - k) := by rw [hL]; simp; omega
          have hLc : L.flatMap llC = (l'.take k).flatMap llC ++ [iv xi, iv xs, .slice qx xl.length cx, iv xf, iv xn] ++ (l'.drop k).flatMap llC := by rw [hL, List.flatMap_append, List.flatMap_cons, List.append_assoc]
          have hS : ∀ {t : TypeId} {pp : Option Addr} {cs : List Value}, Own x5 w.heap.size t pp cs → t ≠ 41 → Own ((((x5.setCell ⟨w1.heap.size, 2, none⟩ (.slice q5 (k + 1 + (l'.length - k)) c5)).setCell ⟨w.heap.size + 1 + 1, 0, none⟩ (.slice q' nn c')).setCell ⟨w.heap.size + 1 + 1, 1, none⟩ (.slice p' nf d')).setCell ⟨w.heap.size + 1 + 1, 2, none⟩ (.slice q5 (k + 1 + (l'.length - k)) c5)) w.heap.size t pp cs := by
            intro t pp cs h n
            exact (((h.setO HPLX.out n _ _).setO HRZX.out n _ _).setO (HRZX.out.set 0 _) n _ _).setO ((HRZX.out.set 0 _).set 1 _) n _ _
          have f45 := fstep HF46.out HFX.out
          have hz6 : w.heap.size ≤ W6.heap.size := by have := HF6.out.size; omega
          have hox5 : Own x5 w.heap.size 3 qx (xl.map iv) := by
            have a1 : Own x2 w.heap.size 3 qx (xl.map iv) := HOX.out.mono (Nat.le_trans hz6 HF1.out.size)
            exact ((a1.keep HF23.out).hk HK4.out (by decide)).hk HK5.out (by decide)
          have hxb : ∀ g o, qx = some ⟨g, o, none⟩ → W6.heap.size ≤ g := by
            intro g o e
            have h1 := (HOX.out.blk g o e).1
            have h2 := HF1.out.size
            omega
          refine ⟨_, rfl, ⟨q', c', p', d', q5, c5, L, by rw [hll, HNN.out, HNF.out], hS (HO1.out.keep f45) (by decide), hS (HO2.out.keep f45) (by decide), hS (by rw [hLc]; exact hol.mono hz6) (by decide), fun y hy => ?_, ?_, ?_, by simp only; rw [← HNN.out]; exact HO7.out, o8, by rw [hll]; exact hcl1, hcl2⟩, fset (fset (fset (fset (fstep HF6.out HFX.out) (by omega) _) (by omega) _) (by omega) _) (by omega) _⟩
          · rw [hL] at hy
            rcases mem_ins hy with rfl | hy
            · exact hS hox5 (by decide)
            · exact hS ((HO4.out y hy).keep f45) (by decide)
          · rw [hL]
            refine HD.out.ins hkl fun y hy g o h' o' e1 e2 => ?_
            have h1 := hxb g o e1
            have h2 := (((HO4.out y hy).keep HF46.out).blk h' o' e2).2
            omega
          · simp only
            rw [HV.out, hL]
            unfold insF
            simp only [List.map_append, List.map_cons, List.map_take, List.map_drop]
            rw [← HPOS.out]))
end Go.Proofs.YtgiinjleehgkoaaGreat
