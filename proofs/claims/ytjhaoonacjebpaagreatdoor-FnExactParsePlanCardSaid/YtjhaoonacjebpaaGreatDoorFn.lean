/- Contracts: the text of a network, the program's side. -/
import Derived.Test.YtjhaoonacjebpaaGreatDoorNt
namespace Go.Proofs.YtjhaoonacjebpaaGreatDoor
open Go.RowKit Go.PlainAid

theorem block_lt {w : World} {b o : Nat} {v : Value} (h : w.cell? ⟨b, o, none⟩ = some v) : b < w.heap.size := by
  rcases Nat.lt_or_ge b w.heap.size with h' | h'
  · exact h'
  · unfold World.cell? at h
    rw [Array.getElem?_eq_none h'] at h
    simp at h
theorem join_head {L : List (List UInt8)} (h : L ≠ []) : 32 :: Lib.join L [32] = L.flatMap fun x => 32 :: x := by
  cases L with
  | nil => exact absurd rfl h
  | cons x t =>
    rw [Lib.join_cons, List.flatMap_cons]
    unfold Lib.joinTail
    rw [List.flatten_eq_flatMap, List.flatMap_map]
    rfl
theorem join_len (L : List (List UInt8)) : (Lib.join L [32]).length ≤ (L.flatMap fun x => 32 :: x).length := by
  cases L with
  | nil => simp [Lib.join_nil]
  | cons x t =>
    have := congrArg List.length (join_head (L := x :: t) (by simp))
    simp only [List.length_cons] at this
    omega
/-- The text of a network, and whether it is valid. -/
def OutFn (n : Net) (w : World) (e : Ending) (w' : World) : Prop := e = .returned (.tuple #[.string (if netB n = true then ba (netX n) else ⟨#[]⟩), .bool (netB n)]) ∧ Fresh w w'
theorem OutFn.yes {n : Net} {w w' : World} (h : netB n = true) (hf : Fresh w w') : OutFn n w (.returned (.tuple #[.string (ba (netX n)), .bool true])) w' := by unfold OutFn; rw [h]; exact ⟨rfl, hf⟩
theorem OutFn.no {n : Net} {w w' : World} (h : netB n = false) (hf : Fresh w w') : OutFn n w (.returned (.tuple #[.string ⟨#[]⟩, .bool false])) w' := by unfold OutFn; rw [h]; exact ⟨rfl, hf⟩
set_option maxHeartbeats 4000000 in
set_option maxRecDepth 20000 in
theorem formatNetwork_any (v : Value) (n : Net) (w : World) (h : NetIn w v n) (hT : TabE w) : Calls Tryz.prog 21 #[v] w (OutFn n w) := by
  have HNI := Lib.hid h
  obtain ⟨N, F⟩ := n
  obtain ⟨q, c, p, d, rfl, hN, hF, n1, n2, n3, n4, hsz⟩ := h
  simp only at hN hF n1 n2 n3 hsz
  obtain ⟨W1, hW1⟩ : ∃ W, W = w.alloc (.cells #[.slice q N.length c, .slice p F.length d] 34) := ⟨_, rfl⟩
  have hf1 : Fresh w W1 := by rw [hW1]; exact fnew (frefl _) _
  have hr1 : RowAt W1 w.heap.size 34 [.slice q N.length c, .slice p F.length d] := by rw [hW1]; exact RowAt.new _ _ _
  have HR1 := Lib.hid hr1
  have HF1 := Lib.hid hf1
  have HN := Lib.hid (hN.keep hf1)
  have HF := Lib.hid (hF.keep hf1)
  have HT1 := Lib.hid (hT.keep hf1)
  have HVN := Lib.hid (implIsValidNetwork_any _ ⟨N, F⟩ W1 (HNI.out.keep hf1))
  have HW1 := Lib.hid hW1
  have c0 := hr1.cell (i := 0) rfl
  have c1 := hr1.cell (i := 1) rfl
  clear hN hF hsz hf1 hr1 hW1 hT
  cases hn : netB ⟨N, F⟩ with
  | false =>
    rw [hn] at HVN
    have HB := Lib.hid hn
    clear hn
    go_enter Tryz.func21, Tryz.ntmps21
    go_wp2_with fail
    rw [← HW1.out]
    refine (HVN.out).mono ?_
    rintro e w2 ⟨rfl, hf2⟩
    go_wp2
    go_ret2
    exact OutFn.no HB.out (fstep HF1.out hf2)
  | true =>
    rw [hn] at HVN
    have HB := Lib.hid hn
    obtain ⟨l2, l8, l14⟩ := netB_len hn
    simp only at l2 l8 l14
    clear hn
    go_enter Tryz.func21, Tryz.ntmps21
    go_wp2_with fail
    rw [← HW1.out]
    refine (HVN.out).mono ?_
    rintro e w2 ⟨rfl, hf2⟩
    have d0 := fkeep hf2 c0
    have d1 := fkeep hf2 c1
    obtain ⟨bb, oo, s0, hqe, hx0, m0⟩ := (HN.out.keep hf2).at (k := 0) (by omega)
    subst hqe
    obtain ⟨jn, hjn⟩ : ∃ jn, jn = ba (Lib.join (N.map (·.data.toList)) [32]) := ⟨_, rfl⟩
    have hjl : jn.size ≤ 100 := by
      rw [hjn, ba_size]
      have h1 := join_len (N.map (·.data.toList))
      have h2 := headTo_len (n := ⟨N, F⟩) HB.out N.length (Nat.le_refl _)
      unfold headTo at h2
      rw [List.take_length] at h2
      rw [List.flatMap_map] at h1
      simp only [List.length_append] at h2
      have h3 : (List.flatMap (fun a : ByteArray => 32 :: a.data.toList) N).length = (List.flatMap (fun s : ByteArray => 32 :: bs s) N).length := rfl
      omega
    have HJN : Hid (Calls Tryz.prog 54 #[.slice (some ⟨bb, oo, none⟩) N.length c, .string ⟨#[32]⟩] w2 fun e w' => e = .returned (.string jn) ∧ Fresh w2 w') := by
      rw [hjn]
      refine Tryz.strings_Join bb oo c N ⟨#[32]⟩ w2 (fun j x hj => ?_) (block_lt m0) (by omega) n3 ?_
      · obtain ⟨b', o', s', e1, e2, e3⟩ := (HN.out.keep hf2).at (List.getElem?_eq_some_iff.1 hj).1
        cases e1
        rw [hj] at e2; cases e2
        exact e3
      · have : (Lib.join (N.map (·.data.toList)) [32]).length = jn.size := by rw [hjn, ba_size]
        show (Lib.join (N.map (·.data.toList)) [32]).length ≤ _
        omega
    have HT0 : Hid ((ba [110, 111, 100, 101, 115, 32] ++ jn) ++ ba [10] = ba (netTo ⟨N, F⟩ 0)) := by
      show _ = _
      rw [hjn, netTo_zero, ba_app, ba_app]
      congr 1
      have h1 := join_head (L := N.map (·.data.toList)) (by intro e; have := congrArg List.length e; rw [List.length_map] at this; simp only [List.length_nil] at this; omega)
      rw [List.flatMap_map] at h1
      show [110, 111, 100, 101, 115] ++ (32 :: Lib.join (N.map (·.data.toList)) [32]) ++ [10] = _
      rw [h1]; rfl
    have HF2 := Lib.hid hf2
    clear hjn m0 hx0 hf2
    go_wp2_with fail
    refine (HJN.out).mono ?_
    rintro e w3 ⟨rfl, hf3⟩
    have HF3 := Lib.hid (fstep HF2.out hf3)
    have c0' := fkeep hf3 d0
    have c1' := fkeep hf3 d1
    clear d0 d1 hf3 c0 c1
    go_wp2
    go_loopw [4, 18] (fun sv iv' wr => ∃ (k : Nat) (T : ByteArray), k ≤ F.length ∧ iv' = .int .i64 k ∧ sv = .string T ∧ Hid (T = ba (netTo ⟨N, F⟩ k)) ∧ Fresh W1 wr) (fun _ iv' _ => F.length - (intOf iv').toNat)
    case atStart => exact ⟨0, _, Nat.zero_le _, rfl, rfl, HT0.out, HF3.out⟩
    case round =>
      obtain ⟨k, T, hk, rfl, rfl, HT, hf⟩ := hrel
      have hTs := str_of HT.out (netTo_len (n := ⟨N, F⟩) HB.out k hk)
      have HFR := Lib.hid hf
      have c0 := (HR1.out.keep hf).cell (i := 0) rfl
      have c1 := (HR1.out.keep hf).cell (i := 1) rfl
      by_cases hlt : k < F.length
      · have hltz : (k : Int) < (F.length : Int) := by omega
        obtain ⟨bd, od, a, b, ln, rk, hpe, hx, d0, d1, d2, d3⟩ := (HF.out.keep hf).at hlt
        subst hpe
        obtain ⟨g1, g2, g3, g4, g5, g6, g7⟩ := fibB_is (netB_fibs HB.out _ (List.mem_of_getElem? hx))
        simp only at g1 g2 g3 g4 g5 g6 g7
        obtain ⟨ka, rfl⟩ : ∃ ka : Nat, a = ka := ⟨a.toNat, by omega⟩
        obtain ⟨kb, rfl⟩ : ∃ kb : Nat, b = kb := ⟨b.toNat, by omega⟩
        have hka : ka < N.length := by omega
        have hkb : kb < N.length := by omega
        obtain ⟨ba1, oo1, sa, hqe, hxa, m0⟩ := (HN.out.keep hf).at hka
        cases hqe
        obtain ⟨bb', oo', sb, hqe, hxb, m1⟩ := (HN.out.keep hf).at hkb
        cases hqe
        have hla := nm_len (n := ⟨N, F⟩) HB.out (ka : Int)
        rw [nmL_at hxa, bs_len] at hla
        have hlb := nm_len (n := ⟨N, F⟩) HB.out (kb : Int)
        rw [nmL_at hxb, bs_len] at hlb
        obtain ⟨u, hu⟩ : ∃ u, u = ba (Lib.itoa ln) := ⟨_, rfl⟩
        have hus : u.size ≤ 10 := by rw [hu, ba_size]; exact itoa_len9 (by omega) (by omega)
        have HIU : Hid (∀ W, TabE W → Calls Tryz.prog 22 #[.int .i64 ln] W fun e w' => e = .returned (.string u) ∧ Fresh W w') := fun W hW => by rw [hu]; exact itoa_any ln W hW (by omega) (by omega)
        obtain ⟨z, hz⟩ : ∃ z, z = ba (Lib.itoa rk) := ⟨_, rfl⟩
        have hzs : z.size ≤ 10 := by rw [hz, ba_size]; exact itoa_len9 (by omega) (by omega)
        have HIZ : Hid (∀ W, TabE W → Calls Tryz.prog 22 #[.int .i64 rk] W fun e w' => e = .returned (.string z) ∧ Fresh W w') := fun W hW => by rw [hz]; exact itoa_any rk W hW (by omega) (by omega)
        have HU := Lib.hid hu
        have HZ := Lib.hid hz
        have HX := Lib.hid hx
        have HXA := Lib.hid hxa
        have HXB := Lib.hid hxb
        obtain ⟨W6, hW6⟩ : ∃ W, W = wr.alloc (.cells #[.int .i64 (ka : Int), .int .i64 (kb : Int), .int .i64 ln, .int .i64 rk] 96) := ⟨_, rfl⟩
        obtain ⟨bF, hbF⟩ : ∃ b, b = wr.heap.size := ⟨_, rfl⟩
        have hf6 : Fresh wr W6 := by rw [hW6]; exact fnew (frefl _) _
        have HR6 : Hid (RowAt W6 bF 96 [.int .i64 (ka : Int), .int .i64 (kb : Int), .int .i64 ln, .int .i64 rk]) := by rw [hW6, hbF]; exact RowAt.new _ _ _
        have HF6 := Lib.hid (fstep hf hf6)
        have HIV : Hid (∀ xa : After W6, Calls Tryz.prog 22 #[.int .i64 ln] xa.w' fun e w' => e = .returned (.string u) ∧ Fresh xa.w' w') := fun xa => HIU.out _ (HT1.out.keep (fstep HF6.out xa.h))
        have HW6 := Lib.hid hW6
        have HBF := Lib.hid hbF
        have hc0 := fun xa : After W6 => akeep (fkeep hf6 c0) xa
        have hm0 := fun xa : After W6 => akeep (fkeep hf6 m0) xa
        have hm1 := fun xa : After W6 => akeep (fkeep hf6 m1) xa
        have he0 := fun xa : After W6 => akeep (HR6.out.cell (i := 0) rfl) xa
        have he1 := fun xa : After W6 => akeep (HR6.out.cell (i := 1) rfl) xa
        have he2 := fun xa : After W6 => akeep (HR6.out.cell (i := 2) rfl) xa
        have hkaz : (ka : Int) < (N.length : Int) := by omega
        have hkbz : (kb : Int) < (N.length : Int) := by omega
        have hrk := g6
        clear hu hz hx hxa hxb hW6 hbF hf6 hf HFR g1 g2 g3 g4 g5 g7 m0 m1
        go_upto_region 7 with fail
        rw [← HW6.out, ← HBF.out]
        clear d0 d1 d2 d3 c0 c1
        refine wp_region_after (by kernel_rfl) (by kernel_rfl) ?_
        repeat (go_big_quiet_step ((go_at_call 22; exact after_call (HIV.out _))))
        refine wpQuiet_nil ?_
        rintro _ ⟨xa, rfl⟩
        obtain ⟨W7, hW7⟩ : ∃ W, W = xa.w' := ⟨_, rfl⟩
        rw [← hW7]
        have hf7 : Fresh W6 W7 := by rw [hW7]; exact xa.h
        have HF7 := Lib.hid (fstep HF6.out hf7)
        have e3 := fkeep hf7 (HR6.out.cell (i := 3) rfl)
        clear hc0 hm0 hm1 he0 he1 he2 hW7 hf7
        clear xa
        have HTX : Hid (∀ R : List UInt8, riskL rk = R → ba (netTo ⟨N, F⟩ (k + 1)) = (T ++ (((((ba [102, 105, 98, 101, 114, 32] ++ sa) ++ ba [32]) ++ sb) ++ ba [32]) ++ u)) ++ ba (R ++ [10])) := fun R hR => by
          rw [netTo_succ HX.out, HT.out, HU.out]
          unfold fibL
          rw [hR, nmL_at HXA.out, nmL_at HXB.out]
          apply bs_inj
          simp [bs_app]
        by_cases h0 : 0 < rk
        · have HR0 : Hid (riskL rk = [32, 114, 105, 115, 107, 32] ++ Lib.itoa rk) := by show _ = _; unfold riskL; rw [if_pos h0]
          go_wp2_with fail
          refine (HIZ.out _ (HT1.out.keep HF7.out)).mono ?_
          rintro e w8 ⟨rfl, hf8⟩
          have HF8 := Lib.hid (fstep HF7.out hf8)
          clear hf8
          go_wp2
          go_roundw
          case rel =>
            refine ⟨k + 1, _, by omega, by go_num, rfl, ?_, HF8.out⟩
            show _ = ba (netTo ⟨N, F⟩ (k + 1))
            rw [HTX.out _ HR0.out, HZ.out]
            apply bs_inj
            simp [bs_app]
          case measure => simp [intOf]; omega
        · have HR0 : Hid (riskL rk = []) := by show _ = _; unfold riskL; rw [if_neg h0]
          go_wp2
          go_roundw
          case rel =>
            refine ⟨k + 1, _, by omega, by go_num, rfl, ?_, HF7.out⟩
            show _ = ba (netTo ⟨N, F⟩ (k + 1))
            rw [HTX.out _ HR0.out]
            rfl
          case measure => simp [intOf]; omega
      · have hltz : ¬ (k : Int) < (F.length : Int) := by omega
        have hkn : k = F.length := by omega
        have HTE : Hid (T = ba (netX ⟨N, F⟩)) := by show _ = _; rw [HT.out, ← netTo_end, hkn]
        clear hkn
        go_wp2
        go_ret2
        rw [HTE.out]
        exact OutFn.yes HB.out (fstep HF1.out HFR.out)
end Go.Proofs.YtjhaoonacjebpaaGreatDoor
