/- Contracts: the text of a network, the reference's side. -/
import Derived.Test.YtjhaoonacjebpaaGreatDoorTxP2
import Derived.Test.YtjhaoonacjebpaaGreatDoorBx2
namespace Go.Proofs.YtjhaoonacjebpaaGreatDoor
open Go.RowKit Go.PlainAid

theorem nm_len {n : Net} (h : netB n = true) (k : Int) : (nmL n.nodes k).length ≤ 8 := by
  unfold nmL
  cases hs : n.nodes[k.toNat]? with
  | none => simp
  | some s =>
    have := netB_names h s (List.mem_of_getElem? hs)
    unfold nameB at this
    rw [Bool.and_eq_true] at this
    have h2 := this.2
    unfold inB at h2
    simp at h2
    show (bs s).length ≤ 8
    rw [bs_len]; omega
theorem fib_len {n : Net} (h : netB n = true) {f : Fib} (hf : f ∈ n.fibers) : (fibL n.nodes f).length ≤ 60 := by
  have hb := fibB_is (netB_fibs h f hf)
  have h1 := nm_len h f.a
  have h2 := nm_len h f.b
  have h3 := itoa_len (n := f.len) (by omega) (by omega)
  have h4 := itoa_len (n := f.risk) (by omega) (by omega)
  unfold fibL riskL
  split
  · simp; omega
  · simp; omega
def headTo (l : List ByteArray) (k : Nat) : List UInt8 := [110, 111, 100, 101, 115] ++ (l.take k).flatMap fun s => 32 :: bs s
theorem headTo_succ {l : List ByteArray} {k : Nat} {s : ByteArray} (h : l[k]? = some s) : headTo l (k + 1) = headTo l k ++ 32 :: bs s := by
  unfold headTo
  rw [List.take_add_one, h, List.flatMap_append]; simp
theorem headTo_len {n : Net} (h : netB n = true) : ∀ k, k ≤ n.nodes.length → (headTo n.nodes k).length ≤ 5 + 9 * k := by
  intro k
  induction k with
  | zero => intro _; simp [headTo]
  | succ k ih =>
    intro hk
    have hx : n.nodes[k]? = some (n.nodes[k]'(by omega)) := List.getElem?_eq_getElem (by omega)
    have h1 := nm_len h (k : Int)
    rw [nmL_at hx] at h1
    rw [headTo_succ hx, List.length_append, List.length_cons]
    have := ih (by omega)
    omega
def netTo (n : Net) (k : Nat) : List UInt8 := headL n.nodes ++ [10] ++ (n.fibers.take k).flatMap fun f => fibL n.nodes f ++ [10]
theorem netTo_zero (n : Net) : netTo n 0 = headL n.nodes ++ [10] := by unfold netTo; simp
theorem netTo_end (n : Net) : netTo n n.fibers.length = netX n := by unfold netTo netX; rw [List.take_length]
theorem netTo_succ {n : Net} {k : Nat} {f : Fib} (h : n.fibers[k]? = some f) : netTo n (k + 1) = netTo n k ++ (fibL n.nodes f ++ [10]) := by
  unfold netTo
  rw [List.take_add_one, h, List.flatMap_append]; simp
theorem headL_to (l : List ByteArray) : headTo l l.length = headL l := by unfold headTo headL; rw [List.take_length]
theorem netTo_len {n : Net} (h : netB n = true) : ∀ k, k ≤ n.fibers.length → (netTo n k).length ≤ 100 + 61 * k := by
  intro k
  induction k with
  | zero =>
    intro _
    have := headTo_len h n.nodes.length (Nat.le_refl _)
    have h8 := (netB_len h).2.1
    rw [headL_to] at this
    rw [netTo_zero]; simp; omega
  | succ k ih =>
    intro hk
    have hx : n.fibers[k]? = some (n.fibers[k]'(by omega)) := List.getElem?_eq_getElem (by omega)
    have h1 := fib_len h (List.mem_of_getElem? hx)
    rw [netTo_succ hx, List.length_append, List.length_append]
    have := ih (by omega)
    simp; omega
theorem str_of {T : ByteArray} {l : List UInt8} {N : Nat} (h : T = ba l) (hl : l.length ≤ N) : T.size ≤ N := by rw [h, ba_size]; exact hl
set_option maxHeartbeats 4000000 in
set_option maxRecDepth 20000 in
theorem l3Network_any (v : Value) (n : Net) (w : World) (h : NetIn w v n) (hn : netB n = true) : Calls Tryz.prog 44 #[v] w fun e w' => e = .returned (.string (ba (netX n))) ∧ Fresh w w' := by
  obtain ⟨N, F⟩ := n
  obtain ⟨q, c, p, d, rfl, hN, hF, n1, n2, n3, n4, hsz⟩ := h
  simp only at hN hF n1 n2 n3 hsz
  obtain ⟨W1, hW1⟩ : ∃ W, W = w.alloc (.cells #[.slice q N.length c, .slice p F.length d] 34) := ⟨_, rfl⟩
  have hf1 : Fresh w W1 := by rw [hW1]; exact fnew (frefl _) _
  have hr1 : RowAt W1 w.heap.size 34 [.slice q N.length c, .slice p F.length d] := by rw [hW1]; exact RowAt.new _ _ _
  have HR1 := Lib.hid hr1
  have HF1 := Lib.hid hf1
  have HN := Lib.hid (hN.keep hf1)
  have HF := Lib.hid (hF.keep hf1)
  have HB := Lib.hid hn
  have HW1 := Lib.hid hW1
  obtain ⟨l2, l8, l14⟩ := netB_len hn
  simp only at l2 l8 l14
  clear hN hF hsz hn hf1 hr1 hW1
  go_enter Tryz.func44, Tryz.ntmps44
  go_wp2
  rw [← HW1.out]
  go_loopw [3, 4] (fun sv iv' wr => ∃ (k : Nat) (T : ByteArray), k ≤ N.length ∧ iv' = .int .i64 k ∧ sv = .string T ∧ Hid (T = ba (headTo N k)) ∧ Fresh W1 wr) (fun _ iv' _ => N.length - (intOf iv').toNat)
  case atStart => exact ⟨0, _, Nat.zero_le _, rfl, rfl, rfl, frefl _⟩
  case round =>
    obtain ⟨k, T, hk, rfl, rfl, HT, hf⟩ := hrel
    have hTs := str_of HT.out (headTo_len (n := ⟨N, F⟩) HB.out k hk)
    have HFR := Lib.hid hf
    have c0 := (HR1.out.keep hf).cell (i := 0) rfl
    have c1 := (HR1.out.keep hf).cell (i := 1) rfl
    by_cases hlt : k < N.length
    · have hltz : (k : Int) < (N.length : Int) := by omega
      obtain ⟨bb, oo, sn, rfl, hx, hcell⟩ := (HN.out.keep hf).at hlt
      have hl := nm_len (n := ⟨N, F⟩) HB.out (k : Int)
      rw [nmL_at hx, bs_len] at hl
      have HX := Lib.hid hx
      clear hx hf
      go_wp2
      go_roundw
      case rel =>
        refine ⟨k + 1, _, by omega, by go_num, rfl, ?_, HFR.out⟩
        show _ = ba (headTo N (k + 1))
        rw [headTo_succ HX.out, HT.out]
        apply bs_inj
        simp [bs_app]
      case measure => simp [intOf]; omega
    · have hltz : ¬ (k : Int) < (N.length : Int) := by omega
      have hkn : k = N.length := by omega
      have HT2 : Hid (T ++ ba [10] = ba (netTo ⟨N, F⟩ 0)) := by
        show _ = _
        rw [HT.out, hkn, netTo_zero, headL_to, ba_app]
      clear hkn hf
      obtain ⟨wo, rfl⟩ : ∃ wo, wo = wr := ⟨_, rfl⟩
      go_wp2
      have HF0 := Lib.hid HFR.out
      clear c0 c1 HFR
      go_loopw [3, 5] (fun sv iv' wr => ∃ (k : Nat) (T : ByteArray), k ≤ F.length ∧ iv' = .int .i64 k ∧ sv = .string T ∧ Hid (T = ba (netTo ⟨N, F⟩ k)) ∧ Fresh W1 wr) (fun _ iv' _ => F.length - (intOf iv').toNat)
      case atStart => exact ⟨0, _, Nat.zero_le _, rfl, rfl, HT2.out, HF0.out⟩
      case round =>
        obtain ⟨k, T, hk, rfl, rfl, HT, hf⟩ := hrel
        have hTs := str_of HT.out (netTo_len (n := ⟨N, F⟩) HB.out k hk)
        have HFR := Lib.hid hf
        have c0 := (HR1.out.keep hf).cell (i := 0) rfl
        have c1 := (HR1.out.keep hf).cell (i := 1) rfl
        by_cases hlt : k < F.length
        · have hltz : (k : Int) < (F.length : Int) := by omega
          obtain ⟨bd, od, a, b, ln, rk, hpe, hx, d0, d1, d2, d3⟩ := (HF.out.keep hf).at hlt
          subst hpe
          obtain ⟨g1, g2, g3, g4, g5, g6, g7⟩ := fibB_is (netB_fibs HB.out _ (List.mem_of_getElem? hx))
          simp only at g1 g2 g3 g4 g5 g6 g7
          obtain ⟨ka, rfl⟩ : ∃ ka : Nat, a = ka := ⟨a.toNat, by omega⟩
          obtain ⟨kb, rfl⟩ : ∃ kb : Nat, b = kb := ⟨b.toNat, by omega⟩
          have hka : ka < N.length := by omega
          have hkb : kb < N.length := by omega
          obtain ⟨bb, oo, sa, hqe, hxa, m0⟩ := (HN.out.keep hf).at hka
          subst hqe
          obtain ⟨bb', oo', sb, hqe, hxb, m1⟩ := (HN.out.keep hf).at hkb
          cases hqe
          have hla := nm_len (n := ⟨N, F⟩) HB.out (ka : Int)
          rw [nmL_at hxa, bs_len] at hla
          have hlb := nm_len (n := ⟨N, F⟩) HB.out (kb : Int)
          rw [nmL_at hxb, bs_len] at hlb
          obtain ⟨u, hu⟩ : ∃ u, u = ba (Lib.itoa ln) := ⟨_, rfl⟩
          have hus : u.size ≤ 10 := by rw [hu, ba_size]; exact itoa_len9 (by omega) (by omega)
          have HIU : Hid (∀ W, Calls Tryz.prog 88 #[.int .i64 ln] W fun e w' => e = .returned (.string u) ∧ Fresh W w') := fun W => by rw [hu]; exact l1Num_any ln W (by omega) (by omega)
          obtain ⟨z, hz⟩ : ∃ z, z = ba (Lib.itoa rk) := ⟨_, rfl⟩
          have hzs : z.size ≤ 10 := by rw [hz, ba_size]; exact itoa_len9 (by omega) (by omega)
          have HIZ : Hid (∀ W, Calls Tryz.prog 88 #[.int .i64 rk] W fun e w' => e = .returned (.string z) ∧ Fresh W w') := fun W => by rw [hz]; exact l1Num_any rk W (by omega) (by omega)
          have HU := Lib.hid hu
          have HZ := Lib.hid hz
          have HX := Lib.hid hx
          have HXA := Lib.hid hxa
          have HXB := Lib.hid hxb
          obtain ⟨W6, hW6⟩ : ∃ W, W = wr.alloc (.cells #[.int .i64 (ka : Int), .int .i64 (kb : Int), .int .i64 ln, .int .i64 rk] 96) := ⟨_, rfl⟩
          obtain ⟨bF, hbF⟩ : ∃ b, b = wr.heap.size := ⟨_, rfl⟩
          have hf6 : Fresh wr W6 := by rw [hW6]; exact fnew (frefl _) _
          have HR6 : Hid (RowAt W6 bF 96 [.int .i64 (ka : Int), .int .i64 (kb : Int), .int .i64 ln, .int .i64 rk]) := by rw [hW6, hbF]; exact RowAt.new _ _ _
          have HF6 := Lib.hid (fstep hf hf6)
          have HW6 := Lib.hid hW6
          have HBF := Lib.hid hbF
          have hc0 := fun xa : After W6 => akeep (fkeep hf6 c0) xa
          have hm0 := fun xa : After W6 => akeep (fkeep hf6 m0) xa
          have hm1 := fun xa : After W6 => akeep (fkeep hf6 m1) xa
          have he0 := fun xa : After W6 => akeep (HR6.out.cell (i := 0) rfl) xa
          have he1 := fun xa : After W6 => akeep (HR6.out.cell (i := 1) rfl) xa
          have he2 := fun xa : After W6 => akeep (HR6.out.cell (i := 2) rfl) xa
          have hkaz : (ka : Int) < (N.length : Int) := by omega
          have hkbz : (kb : Int) < (N.length : Int) := by omega
          have hrk := g6
          clear hu hz hx hxa hxb hW6 hbF hf6 hf HFR g1 g2 g3 g4 g5 g7 m0 m1
          go_upto_region 11 with fail
          rw [← HW6.out, ← HBF.out]
          clear d0 d1 d2 d3 c0 c1
          refine wp_region_after (by kernel_rfl) (by kernel_rfl) ?_
          repeat (go_big_quiet_step ((go_at_call 88; exact after_call (HIU.out _))))
          refine wpQuiet_nil ?_
          rintro _ ⟨xa, rfl⟩
          obtain ⟨W7, hW7⟩ : ∃ W, W = xa.w' := ⟨_, rfl⟩
          rw [← hW7]
          have hf7 : Fresh W6 W7 := by rw [hW7]; exact xa.h
          have HF7 := Lib.hid (fstep HF6.out hf7)
          have e3 := fkeep hf7 (HR6.out.cell (i := 3) rfl)
          clear hc0 hm0 hm1 he0 he1 he2 hW7 hf7
          clear xa
          have HTX : Hid (∀ R : List UInt8, riskL rk = R → ba (netTo ⟨N, F⟩ (k + 1)) = ((((((T ++ ba [102, 105, 98, 101, 114, 32]) ++ sa) ++ ba [32]) ++ sb) ++ ba [32]) ++ u) ++ ba (R ++ [10])) := fun R hR => by
            rw [netTo_succ HX.out, HT.out, HU.out]
            unfold fibL
            rw [hR, nmL_at HXA.out, nmL_at HXB.out]
            apply bs_inj
            simp [bs_app]
          by_cases h0 : 0 < rk
          · have HR0 : Hid (riskL rk = [32, 114, 105, 115, 107, 32] ++ Lib.itoa rk) := by show _ = _; unfold riskL; rw [if_pos h0]
            go_wp2_with fail
            refine (HIZ.out _).mono ?_
            rintro e w8 ⟨rfl, hf8⟩
            have HF8 := Lib.hid (fstep HF7.out hf8)
            clear hf8
            go_wp2
            go_roundw
            case rel =>
              refine ⟨k + 1, _, by omega, by go_num, rfl, ?_, HF8.out⟩
              show _ = ba (netTo ⟨N, F⟩ (k + 1))
              rw [HTX.out _ HR0.out, HZ.out]
              apply bs_inj
              simp [bs_app]
            case measure => simp [intOf]; omega
          · have HR0 : Hid (riskL rk = []) := by show _ = _; unfold riskL; rw [if_neg h0]
            go_wp2
            go_roundw
            case rel =>
              refine ⟨k + 1, _, by omega, by go_num, rfl, ?_, HF7.out⟩
              show _ = ba (netTo ⟨N, F⟩ (k + 1))
              rw [HTX.out _ HR0.out]
              rfl
            case measure => simp [intOf]; omega
        · have hltz : ¬ (k : Int) < (F.length : Int) := by omega
          have hkn : k = F.length := by omega
          have HTE : Hid (T = ba (netX ⟨N, F⟩)) := by show _ = _; rw [HT.out, ← netTo_end, hkn]
          clear hkn
          go_wp2
          go_ret
          exact ⟨by rw [← HTE.out]; rfl, fstep HF1.out HFR.out⟩
end Go.Proofs.YtjhaoonacjebpaaGreatDoor
