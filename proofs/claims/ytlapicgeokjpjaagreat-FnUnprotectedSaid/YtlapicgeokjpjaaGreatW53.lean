/- The walk of the law FnUnprotected. -/
import Derived.Test.YtlapicgeokjpjaaGreatDw
import Derived.Test.YtlapicgeokjpjaaGreatCh2
import Derived.Test.YtlapicgeokjpjaaGreatUp2
namespace Go.Proofs.YtlapicgeokjpjaaGreat
open Go.RowKit Go.PlainAid

theorem vBig_u (p : Option Addr) (cap : Nat) (n : Nat) (w : World) : Calls Tryz.prog 5 #[.slice p n cap] w fun e w' => e = .returned (.bool (decide ((65536 : Int) < (n : Int)))) ∧ w = w' := by
  go_enter Tryz.func5, Tryz.ntmps5
  go_wp2
  go_ret
  exact ⟨rfl, rfl⟩
theorem NetIn.aggU {w : World} {v : Value} {n : Net} (h : NetIn w v n) : ∃ q c p d, v = .agg #[.slice q n.nodes.length c, .slice p n.fibers.length d] := by
  obtain ⟨q, c, p, d, hv, _⟩ := h; exact ⟨q, c, p, d, hv⟩
theorem rowI_le {d e : Nat → Nat → Bool} {i N : Nat} : ∀ k, (∀ m, i < m → m < k → d i m = true → e i m = true) → (rowI d i k).length ≤ (rowI e i k).length
  | 0, _ => by unfold rowI; simp
  | k + 1, h => by
    have ih := rowI_le (N := N) k (fun m h1 h2 => h m h1 (by omega))
    rw [rowI_succ, rowI_succ, List.length_append, List.length_append]
    by_cases hk : i < k
    · by_cases hd : d i k = true
      · rw [hd, h k hk (by omega) hd]; omega
      · simp only [Bool.not_eq_true] at hd
        rw [hd]; simp; omega
    · simp [hk]; exact ih
theorem toI_le {d e : Nat → Nat → Bool} {N : Nat} : ∀ i, (∀ a b, a < i → a < b → b < N → d a b = true → e a b = true) → (toI d N i).length ≤ (toI e N i).length
  | 0, _ => by unfold toI; simp
  | i + 1, h => by
    have ih := toI_le i (fun a b h1 => h a b (by omega))
    have hr := rowI_le (N := N) (d := d) (e := e) (i := i) N (fun m h1 h2 => h i m (by omega) h1 h2)
    rw [toI_succ, toI_succ, List.length_append, List.length_append]
    omega
theorem apart_usesU {F : List Fib} {a b : List Int} (h : apartF F a b = true) : usesB a b = false := by
  unfold apartF at h
  unfold usesB
  rw [Bool.not_eq_true', List.any_eq_false] at h
  rw [List.any_eq_false]
  intro x hx hb
  refine h x hx (List.any_eq_true.2 ⟨x, by simpa using hb, by simp [sameG]⟩)
theorem disj_one_ofU {n : Net} {s : Int} {a b : List Int} {k : Int} (h : disjB n s a b k = true) : disjB n s a b 1 = true := by
  unfold disjB at h ⊢
  rw [if_neg (by decide)]
  by_cases hk : k = 2
  · rw [if_pos hk] at h
    rw [apart_usesU h]; rfl
  · rw [if_neg hk] at h
    rw [Bool.and_eq_true] at h
    rw [h.1]; rfl
theorem countF_ok {n : Net} {s t k : Int} : (countF n s t k).2 = okK n s t k := by
  unfold countF
  cases h : okK n s t k <;> rfl
theorem kind_one : kindB 1 = true := by decide
theorem okK_one {n : Net} {a b k : Int} (h : okK n a b k = true) : okK n a b 1 = true := by
  unfold okK at *
  rw [Bool.and_eq_true] at *
  exact ⟨h.1, kind_one⟩
theorem pairs_empty {n : Net} {a b k : Int} (h : okK n a b k = true) : (countF n a b k).1 = 0 ↔ ∀ x, x ∉ pairsF n a b k := by
  unfold countF
  rw [if_pos h]
  show (((pairsF n a b k).length : Int) = 0) ↔ _
  rw [← List.eq_nil_iff_forall_not_mem]
  constructor
  · intro h; exact List.eq_nil_of_length_eq_zero (by omega)
  · intro h; rw [h]; rfl
theorem dU_one {n : Net} {a b : Nat} {k : Int} (h : okK n a b k = true) (hd : dU n 1 a b = true) : dU n k a b = true := by
  unfold dU at *
  rw [decide_eq_true_eq] at *
  rw [pairs_empty h]
  rw [pairs_empty (okK_one h)] at hd
  intro x hx
  refine hd x ?_
  obtain ⟨h3, h4, h5, h6⟩ := toI_mem.1 hx
  refine toI_mem.2 ⟨h3, h4, h5, ?_⟩
  show dP n a (allR n a b) 1 x.1 x.2 = true
  replace h6 : dP n a (allR n a b) k x.1 x.2 = true := h6
  unfold dP at *
  split at h6
  · next X Y hX hY => exact disj_one_ofU h6
  · cases h6
theorem upF_parts {n : Net} {k : Int} (h : (upF n k).2 = true) : netB n = true ∧ upF n k = (upL n k, true) ∧ ∀ a b : Nat, a < b → b < n.nodes.length → okK n a b k = true := by
  by_cases hc : (upB n k && allU n k) = true
  · have e : upF n k = (upL n k, true) := by unfold upF; rw [hc]; rfl
    rw [Bool.and_eq_true] at hc
    obtain ⟨h1, h2⟩ := hc
    have hn : netB n = true := by unfold upB at h1; rw [Bool.and_eq_true] at h1; exact h1.1
    refine ⟨hn, e, fun a b hab hb => ?_⟩
    unfold allU at h2
    rw [List.all_eq_true] at h2
    have h3 := h2 a (List.mem_range.2 (by omega))
    rw [List.all_eq_true] at h3
    have h4 := h3 b (List.mem_range.2 hb)
    simp [hab] at h4
    unfold okU at h4
    rw [← countF_ok (n := n) (s := a) (t := b) (k := k)]
    exact h4
  · simp only [Bool.not_eq_true] at hc
    unfold upF at h
    rw [hc] at h
    cases h
theorem upF_one {n : Net} {k : Int} (h : (upF n k).2 = true) : (upF n 1).2 = true ∧ (upF n 1).1.length ≤ (upF n k).1.length ∧ (upF n 1).1.length = (toI (dU n 1) n.nodes.length n.nodes.length).length := by
  obtain ⟨hn, he, hok⟩ := upF_parts h
  have e1 : upF n 1 = (upL n 1, true) := upF_yes (by unfold upB; rw [hn, kind_one]; rfl) (fun a b h1 h2 => by
    unfold okU
    rw [countF_ok (n := n) (s := a) (t := b) (k := 1)]
    exact okK_one (hok a b h1 h2))
  rw [e1, he]
  refine ⟨rfl, ?_, ?_⟩
  · show (upL n 1).length ≤ (upL n k).length
    unfold upL
    rw [List.length_map, List.length_map]
    exact toI_le _ fun a b h1 h2 h3 hd => dU_one (hok a b h2 h3) hd
  · show (upL n 1).length = _
    unfold upL
    rw [List.length_map]
theorem dU_least {n : Net} {a b : Nat} {c : Nat} (h : okK n a b 1 = true) (hk : LeastC n a b c) : dU n 1 a b = decide ((c : Int) < 2) := by
  unfold dU
  rw [decide_eq_decide, count_least h hk]
  omega
theorem OwnSS.slice {w : World} {base : Nat} {v : Value} {L : List (List Int)} (h : OwnSS w base v L) : ∃ p c, v = .slice p L.length c := by
  obtain ⟨p, c, I, hv, hm, _⟩ := h
  refine ⟨p, c, ?_⟩
  rw [hv, ← hm, List.length_map]
set_option maxHeartbeats 8000000 in
set_option maxRecDepth 100000 in
theorem law_Unprotected (p : Option Addr) (cap : Nat) (xs : List Int) (w : World) (hI : Cells w p (xs.map (Value.int .u8))) (_ : xs.length ≤ 9223372036854775807) (hb : ∀ x ∈ xs, 0 ≤ x ∧ x ≤ 255) :
    Calls Tryz.prog 3 #[.slice p xs.length cap] w fun e w' => e = .returned (.bool true) ∧ Fresh w w' := by
  by_cases hbig : (65536 : Int) < (xs.length : Int)
  · have hbb : decide ((65536 : Int) < (xs.length : Int)) = true := decide_eq_true hbig
    go_enter Tryz.func3, Tryz.ntmps3
    go_wp2_with (go_at_call 5; refine (vBig_u p cap xs.length _).mono ?_; rw [hbb]; rintro e w1 ⟨rfl, rfl⟩)
    go_ret
    exact ⟨rfl, frefl _⟩
  have hbb : decide ((65536 : Int) < (xs.length : Int)) = false := decide_eq_false hbig
  have HDR := Lib.hid (drawUnprotected_any p cap xs w ⟨hI, hb, by omega⟩)
  clear hI hb
  go_enter Tryz.func3, Tryz.ntmps3
  go_wp2_with (go_at_call 5; refine (vBig_u p cap xs.length _).mono ?_; rw [hbb]; rintro e w1 ⟨rfl, rfl⟩)
  refine (HDR.out).mono ?_
  rintro e w1 ⟨v, n, k, rfl, hn1, hf1⟩
  have HN1 := Lib.hid hn1.net
  obtain ⟨q, c, p', d, rfl⟩ := hn1.net.aggU
  obtain ⟨W2, hW2⟩ : ∃ W, W = w1.alloc (.cells #[.slice q n.nodes.length c, .slice p' n.fibers.length d] 27) := ⟨_, rfl⟩
  obtain ⟨bN, hbN⟩ : ∃ b, b = w1.heap.size := ⟨_, rfl⟩
  have hf2 : Fresh w1 W2 := by rw [hW2]; exact fnew (frefl _) _
  have HB2 : Hid (RowAt W2 bN 27 [.slice q n.nodes.length c, .slice p' n.fibers.length d]) := by rw [hW2, hbN]; exact RowAt.new _ _ _
  have HN2 := Lib.hid (HN1.out.keep hf2)
  have HF2 := Lib.hid (fstep hf1 hf2)
  have h16 : n.nodes.length ≤ 16 := by obtain ⟨_, _, _, _, _, _, _, h, _⟩ := hn1; exact h
  obtain ⟨K, hK⟩ : ∃ K, K = (upF n k).2 := ⟨_, rfl⟩
  obtain ⟨lk, hlk⟩ : ∃ l, l = (upF n k).1.length := ⟨_, rfl⟩
  obtain ⟨K1, hK1⟩ : ∃ K, K = (upF n 1).2 := ⟨_, rfl⟩
  obtain ⟨l1, hl1⟩ : ∃ l, l = (upF n 1).1.length := ⟨_, rfl⟩
  have HUI : Hid (∀ W, Fresh W2 W → Calls Tryz.prog 7 #[.agg #[.slice q n.nodes.length c, .slice p' n.fibers.length d], .int .i64 k] W fun e w' => ∃ p c, e = .returned (.tuple #[.slice p lk c, .bool K]) ∧ Fresh W w') := fun W hW =>
    (implUnprotectedPairs_any _ n k W (HN2.out.keep hW)).mono fun e w' ⟨v', he, ho, hf⟩ => by
      obtain ⟨p, c, rfl⟩ := ho.slice
      exact ⟨p, c, by rw [he, hK, hlk], hf⟩
  have HUS : Hid (∀ W, Fresh W2 W → Calls Tryz.prog 8 #[.agg #[.slice q n.nodes.length c, .slice p' n.fibers.length d], .int .i64 k] W fun e w' => ∃ p c, e = .returned (.tuple #[.slice p lk c, .bool K]) ∧ Fresh W w') := fun W hW =>
    (specUnprotectedPairs_any _ n k W (HN2.out.keep hW)).mono fun e w' ⟨v', he, ho, hf⟩ => by
      obtain ⟨p, c, rfl⟩ := ho.slice
      exact ⟨p, c, by rw [he, hK, hlk], hf⟩
  have HU1 : Hid (∀ W, Fresh W2 W → Calls Tryz.prog 7 #[.agg #[.slice q n.nodes.length c, .slice p' n.fibers.length d], .int .i64 1] W fun e w' => ∃ p c, e = .returned (.tuple #[.slice p l1 c, .bool K1]) ∧ Fresh W w') := fun W hW =>
    (implUnprotectedPairs_any _ n 1 W (HN2.out.keep hW)).mono fun e w' ⟨v', he, ho, hf⟩ => by
      obtain ⟨p, c, rfl⟩ := ho.slice
      exact ⟨p, c, by rw [he, hK1, hl1], hf⟩
  have HKP : Hid (K = true → K1 = true ∧ l1 ≤ lk ∧ l1 = (toI (dU n 1) n.nodes.length n.nodes.length).length ∧ ∀ a b : Nat, a < b → b < n.nodes.length → okK n a b k = true) := fun h => by
    rw [hK] at h
    obtain ⟨h1, h2, h3⟩ := upF_one h
    rw [hK1, hl1, hlk]
    exact ⟨h1, h2, h3, (upF_parts h).2.2⟩
  have HTL : Hid (∀ i, (toI (dU n 1) n.nodes.length i).length ≤ i * n.nodes.length) := fun i => toI_len _ _ i
  have HRL : Hid (∀ i m, (rowI (dU n 1) i m).length ≤ m) := fun i m => rowI_len _ i m
  have HDC : Hid (∀ W (a b : Int), Fresh W2 W → Calls Tryz.prog 9 #[.agg #[.slice q n.nodes.length c, .slice p' n.fibers.length d], .int .i64 a, .int .i64 b] W fun e w' => ∃ k : Nat, e = .returned (.tuple #[.int .i64 (k : Int), .bool (pairB n a b)]) ∧ Fresh W w' ∧ (pairB n a b = true → LeastC n a b k)) := fun W a b hW =>
    disjointCount_any _ n a b W (HN2.out.keep hW)
  have HW2 := Lib.hid hW2
  have HBN := Lib.hid hbN
  clear hf1 hf2 hn1 hW2 hbN HDR hbb HN1 hK hlk hK1 hl1
  go_wp2_with fail
  rw [← HBN.out, ← HW2.out]
  refine (HUI.out _ (frefl _)).mono ?_
  rintro e w3 ⟨p3, c3, rfl, hf3⟩
  have HF3 := Lib.hid hf3
  have d0 := (HB2.out.keep hf3).cell (i := 0) rfl
  have d1 := (HB2.out.keep hf3).cell (i := 1) rfl
  clear hf3
  go_wp2_with fail
  refine (HUS.out _ HF3.out).mono ?_
  rintro e w4 ⟨p4, c4, rfl, hf4⟩
  have HF4 := Lib.hid (fstep HF3.out hf4)
  clear hf4 d0 d1
  have d0 := (HB2.out.keep HF4.out).cell (i := 0) rfl
  have d1 := (HB2.out.keep HF4.out).cell (i := 1) rfl
  have hlz : ((lk : Int) != (lk : Int)) = false := by simp
  have hlz2 : ((lk : Int) == (lk : Int)) = true := by simp
  cases K with
  | false =>
    go_wp2
    go_ret
    exact ⟨rfl, fstep HF2.out HF4.out⟩
  | true =>
    obtain ⟨hk1, hll, hle, hok⟩ := HKP.out rfl
    subst hk1
    have HOK := Lib.hid hok
    have HLE := Lib.hid hle
    clear hok hle
    go_wp2_with fail
    refine (HU1.out _ HF4.out).mono ?_
    rintro e w5 ⟨p5, c5, rfl, hf5⟩
    have HF5 := Lib.hid (fstep HF4.out hf5)
    clear hf5 d0 d1 hlz hlz2
    have hll2 : ¬ (lk : Int) < (l1 : Int) := by omega
    have hdl : decide (lk < l1) = false := decide_eq_false (by omega)
    clear hll
    go_upto_region 11 with fail
    clear hll2 hdl
    go_wp2
    go_loopw [11, 12] (fun m a wr => ∃ j : Nat, j ≤ n.nodes.length ∧ m = .int .i64 ((toI (dU n 1) n.nodes.length j).length : Int) ∧ a = .int .i64 (j : Int) ∧ Fresh W2 wr) (fun m a wr => n.nodes.length - (intOf a).toNat)
    case atStart => exact ⟨0, by omega, by unfold toI; rfl, rfl, HF5.out⟩
    case round =>
      obtain ⟨i, hi', rfl, rfl, hf⟩ := hrel
      obtain ⟨wo, rfl⟩ : ∃ W, W = wr := ⟨_, rfl⟩
      have HFI := Lib.hid hf
      have d0 := (HB2.out.keep hf).cell (i := 0) rfl
      clear hf
      by_cases hlt : i < n.nodes.length
      · have hltz : (i : Int) < (n.nodes.length : Int) := by omega
        have hw1 : IntKind.i64.wrap ((i : Int) + 1) = (i : Int) + 1 := by rw [IntKind.wrap_i64]; omega
        go_wp2
        clear hw1 hltz d0
        go_loopw [11, 13] (fun m b wr => ∃ j : Nat, i + 1 ≤ j ∧ j ≤ n.nodes.length ∧ m = .int .i64 (((toI (dU n 1) n.nodes.length i).length + (rowI (dU n 1) i j).length : Nat) : Int) ∧ b = .int .i64 (j : Int) ∧ Fresh W2 wr) (fun m b wr => n.nodes.length - (intOf b).toNat)
        case atStart => exact ⟨i + 1, Nat.le_refl _, by omega, by rw [rowI_low]; rfl, by go_num, HFI.out⟩
        case round =>
          obtain ⟨m, hm1, hm2, rfl, rfl, hf⟩ := hrel
          have HF6 := Lib.hid hf
          have d0 := (HB2.out.keep hf).cell (i := 0) rfl
          have d1 := (HB2.out.keep hf).cell (i := 1) rfl
          clear hf
          have hsm : (toI (dU n 1) n.nodes.length i).length + (rowI (dU n 1) i m).length ≤ 1000 := by
            have h2 := HTL.out i
            have h3 := HRL.out i m
            have h4 : i * n.nodes.length ≤ 16 * 16 := Nat.mul_le_mul (by omega) h16
            omega
          by_cases hlt2 : m < n.nodes.length
          · have hltz : (m : Int) < (n.nodes.length : Int) := by omega
            have HK := Lib.hid (HOK.out i m (by omega) hlt2)
            have HRS : Hid (∀ b : Bool, dU n 1 i m = b → (rowI (dU n 1) i (m + 1)).length = (rowI (dU n 1) i m).length + (if b then 1 else 0)) := fun b hb => by
              cases b
              · rw [rowI_none hb]; rfl
              · rw [rowI_some (by omega) hb, List.length_append]; rfl
            obtain ⟨A, hA⟩ : ∃ A, A = (toI (dU n 1) n.nodes.length i).length + (rowI (dU n 1) i m).length := ⟨_, rfl⟩
            rw [← hA] at hsm ⊢
            have HA := Lib.hid hA
            clear hA
            have HDD := Lib.hid (HDC.out wr (i : Int) (m : Int) HF6.out)
            rw [okK_pair HK.out] at HDD
            go_wp2_with fail
            refine (HDD.out).mono ?_
            rintro e w7 ⟨cc, rfl, hf7, hlc⟩
            have HF7 := Lib.hid (fstep HF6.out hf7)
            have HDU := Lib.hid (dU_least (okK_one HK.out) (hlc trivial))
            clear hf7 hlc HDD d0 d1
            by_cases hc : (cc : Int) < 2
            · have hw2 : IntKind.i64.wrap ((A : Int) + 1) = (A : Int) + 1 := by rw [IntKind.wrap_i64]; omega
              have hw3 : IntKind.i64.wrap ((m : Int) + 1) = (m : Int) + 1 := by rw [IntKind.wrap_i64]; omega
              have HR := Lib.hid (HRS.out true (by rw [HDU.out]; exact decide_eq_true hc))
              go_wp2
              go_roundw
              case rel => exact ⟨m + 1, by omega, by omega, by rw [HR.out, ← Nat.add_assoc, ← HA.out]; rfl, by go_num, HF7.out⟩
              case measure => simp [intOf]; omega
            · have hw3 : IntKind.i64.wrap ((m : Int) + 1) = (m : Int) + 1 := by rw [IntKind.wrap_i64]; omega
              have HR := Lib.hid (HRS.out false (by rw [HDU.out]; exact decide_eq_false hc))
              go_wp2
              go_roundw
              case rel => exact ⟨m + 1, by omega, by omega, by rw [HR.out, ← Nat.add_assoc, ← HA.out]; rfl, by go_num, HF7.out⟩
              case measure => simp [intOf]; omega
          · have hmn : m = n.nodes.length := by omega
            have hltz : ¬ (m : Int) < (n.nodes.length : Int) := by omega
            have HE : Hid ((toI (dU n 1) n.nodes.length (i + 1)).length = (toI (dU n 1) n.nodes.length i).length + (rowI (dU n 1) i m).length) := by
              show _ = _
              rw [toI_succ, List.length_append, hmn]
            have hw1 : IntKind.i64.wrap ((i : Int) + 1) = (i : Int) + 1 := by rw [IntKind.wrap_i64]; omega
            clear hmn d1
            go_wp2
            go_roundw
            case rel => exact ⟨i + 1, by omega, by rw [HE.out], by go_num, HF6.out⟩
            case measure => simp [intOf]; omega
      · have hjn : i = n.nodes.length := by omega
        have hltz : ¬ (i : Int) < (n.nodes.length : Int) := by omega
        have hend : (((toI (dU n 1) n.nodes.length i).length : Int) == (l1 : Int)) = true := by rw [hjn, ← HLE.out]; simp
        clear hjn
        go_wp2
        go_ret
        exact ⟨rfl, fstep HF2.out HFI.out⟩
end Go.Proofs.YtlapicgeokjpjaaGreat
