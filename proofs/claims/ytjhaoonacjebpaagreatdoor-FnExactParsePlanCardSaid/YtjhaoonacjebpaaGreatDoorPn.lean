/- Contracts: a network's text is read, the program's side. -/
import Derived.Test.YtjhaoonacjebpaaGreatDoorPb2
import Derived.Test.YtjhaoonacjebpaaGreatDoorPq
import Derived.Test.YtjhaoonacjebpaaGreatDoorY3
namespace Go.Proofs.YtjhaoonacjebpaaGreatDoor
open Go.RowKit Go.PlainAid

/-- The network of a text, and whether there is one. -/
def OutPn (s : ByteArray) (w : World) (e : Ending) (w' : World) : Prop :=
  ((∀ M, ¬ IsN (bs s) M) ∧ e = .returned (.tuple #[.agg #[.slice none 0 0, .slice none 0 0], .bool false]) ∧ Fresh w w') ∨
  (∃ M q c p d, IsN (bs s) M ∧ (∀ M', IsN (bs s) M' → M' = M) ∧ e = .returned (.tuple #[.agg #[.slice q M.nodes.length c, .slice p M.fibers.length d], .bool true]) ∧ Own w' w.heap.size 9 q (M.nodes.map Value.string) ∧ Own w' w.heap.size 96 p (M.fibers.flatMap fibC) ∧ M.nodes.length ≤ c ∧ c ≤ 9223372036854775807 ∧ Fresh w w')
theorem one_fibC (f : Fib) : ∀ u ∈ fibC f, u.oneCell' = true := by
  intro u hu
  simp [fibC] at hu
  rcases hu with rfl | rfl | rfl | rfl <;> rfl
theorem linesOk_len {s : List UInt8} (h : linesOk s = true) : s.length ≤ 4000 := by
  unfold linesOk at h; simp at h; exact h.1
/-- A row of strings as a value: its place, its room, its cells. -/
theorem strs_rowC {w : World} {base : Nat} {v : Value} {P : List (List UInt8)} (h : w.ownsRow base 9 1 v P.length (strs P)) (h0 : 0 < P.length) : ∃ g c, v = .slice (some ⟨g, 0, none⟩) P.length c ∧ P.length ≤ c ∧ c ≤ 9223372036854775807 ∧ ∀ (k : Nat) (x : List UInt8), P[k]? = some x → w.cell? ⟨g, k, none⟩ = some (.string (ba x)) := by
  obtain ⟨p, c, hv, _, h1, h2⟩ := owns_cap h
  obtain ⟨g, c', hv', hc⟩ := strs_row h h0
  rw [hv] at hv'
  cases hv'
  exact ⟨g, c, hv, h1, h2, hc⟩
theorem strs_drop {w : World} {g : Nat} {W : List (List UInt8)} (h : ∀ (k : Nat) (x : List UInt8), W[k]? = some x → w.cell? ⟨g, k, none⟩ = some (.string (ba x))) : Strs w (some ⟨g, 1, none⟩) ((W.drop 1).map ba) := by
  refine Or.inr ⟨g, 1, rfl, fun k v hv => ?_⟩
  rw [List.map_map, List.getElem?_map] at hv
  cases hx : (W.drop 1)[k]? with
  | none => rw [hx] at hv; cases hv
  | some x =>
    rw [hx] at hv
    cases hv
    rw [List.getElem?_drop] at hx
    exact h (1 + k) x hx
theorem words_small {s x : List UInt8} (hs : s.length ≤ 4000) (hx : x ∈ splitC 10 s.dropLast) : ((splitC 32 x).drop 1).length ≤ 4001 ∧ ∀ b ∈ ((splitC 32 x).drop 1).map ba, b.size ≤ 1048576 := by
  have h1 := (splitC_small 10 s.dropLast).2 x hx
  rw [List.length_dropLast] at h1
  obtain ⟨h2, h3⟩ := splitC_small 32 x
  refine ⟨by rw [List.length_drop]; omega, fun b hb => ?_⟩
  obtain ⟨y, hy, rfl⟩ := List.mem_map.1 hb
  have := h3 y (List.mem_of_mem_drop hy)
  rw [ba_size]; omega
set_option maxHeartbeats 8000000 in
set_option maxRecDepth 100000 in
theorem parseNetwork_any (s : ByteArray) (w : World) (hs : s.size ≤ 2097152) (hT : TabE w) (hS : SynE w) (hM : MaxE w) : Calls Tryz.prog 31 #[.string s] w (OutPn s w) := by
  obtain ⟨bR, hbR⟩ : ∃ b, b = w.heap.size := ⟨_, rfl⟩
  obtain ⟨W1, hW1⟩ : ∃ W, W = w.alloc (.cells #[.slice none 0 0, .slice none 0 0] 34) := ⟨_, rfl⟩
  have hf1 : Fresh w W1 := by rw [hW1]; exact fnew (frefl _) _
  have HR : Hid (RowAt W1 bR 34 [.slice none 0 0, .slice none 0 0]) := by show RowAt _ _ _ _; rw [hW1, hbR]; exact RowAt.new _ _ _
  have hlo : w.heap.size ≤ bR := by omega
  have HLN := Lib.hid (linesOf_any s W1 hs (hM.keep hf1))
  have HT := Lib.hid hT
  have HS := Lib.hid hS
  have HM := Lib.hid hM
  have HF := Lib.hid hf1
  have HW1 := Lib.hid hW1
  have HBR := Lib.hid hbR
  have HSZ := Lib.hid hs
  clear hW1 hf1 hT hS hM hbR hs
  go_enter Tryz.func31, Tryz.ntmps31
  go_wp2_with fail
  rw [← HW1.out, ← HBR.out]
  refine (HLN.out).mono ?_
  clear HLN HW1
  rintro e w2 (⟨hlk, ⟨q0, n0, c0, rfl⟩, hf2⟩ | ⟨hlk, v, rfl, ho, hf2⟩)
  · have HNO : Hid (∀ M, ¬ IsN (bs s) M) := fun M h => by rw [(isN_lines h).1] at hlk; cases hlk
    replace HF := Lib.hid (fstep HF.out hf2)
    replace HR := Lib.hid (HR.out.keep hf2)
    have x0 := HR.out.cell (i := 0) rfl
    have x1 := HR.out.cell (i := 1) rfl
    have u0 := HR.out.frozen 0
    have u1 := HR.out.frozen 1
    have hfin := (HR.out.set 0 (.slice none 0 0)).set 1 (.slice none 0 0)
    have k0 := hfin.cell (i := 0) rfl
    have k1 := hfin.cell (i := 1) rfl
    clear hfin hf2 hlk
    go_wp2
    refine bodyPost_ret (v := .tuple #[.agg #[.slice none 0 0, .slice none 0 0], .bool false]) (by simp [results, Tryz.results31, go_sem, k0, k1]) rfl ?_
    exact Or.inl ⟨HNO.out, rfl, fset (fset HF.out hlo _) hlo _⟩
  · have hs4 : (bs s).length ≤ 4000 := linesOk_len hlk
    obtain ⟨P, hP⟩ : ∃ P, P = splitC 10 (bs s).dropLast := ⟨_, rfl⟩
    rw [← hP] at ho
    have hp0 : 0 < P.length := by rw [hP]; exact Nat.pos_of_ne_zero fun h => splitC_ne 10 _ (List.eq_nil_of_length_eq_zero h)
    have hp1 : P.length ≤ 4000 := by rw [hP]; have h1 := (splitC_small 10 (bs s).dropLast).1; rw [List.length_dropLast] at h1; omega
    obtain ⟨gl, cl, rfl, hcl1, hcl2, hcell⟩ := strs_rowC ho hp0
    obtain ⟨x0, hx0⟩ : ∃ x0, P[0]? = some x0 := ⟨P[0], List.getElem?_eq_getElem hp0⟩
    have hsx0 : (ba x0).size ≤ 1048576 := by
      rw [ba_size]
      have h1 := (splitC_small 10 (bs s).dropLast).2 x0 (by rw [← hP]; exact List.mem_of_getElem? hx0)
      rw [List.length_dropLast] at h1; omega
    have hwsm := words_small hs4 (x := x0) (by rw [← hP]; exact List.mem_of_getElem? hx0)
    have hsl : ∀ (k : Nat) (x : List UInt8), P[k]? = some x → (ba x).size ≤ 1048576 := fun k x hx => by
      rw [ba_size]
      have h1 := (splitC_small 10 (bs s).dropLast).2 x (by rw [← hP]; exact List.mem_of_getElem? hx)
      rw [List.length_dropLast] at h1; omega
    have l0 := hcell 0 x0 hx0
    have HSL := Lib.hid hsl
    have HWSM := Lib.hid hwsm
    have HX0 := Lib.hid hx0
    have HP := Lib.hid hP
    have HCE := Lib.hid hcell
    replace HF := Lib.hid (fstep HF.out hf2)
    replace HR := Lib.hid (HR.out.keep hf2)
    have HSP := Lib.hid (split_any (ba x0) 32 w2 hsx0 (HM.out.keep HF.out))
    obtain ⟨nodes, hnodes⟩ : ∃ nodes, nodes = ((splitC 32 x0).drop 1).map ba := ⟨_, rfl⟩
    have hnn : nodes.length ≤ 1048576 := by rw [hnodes, List.length_map]; have := hwsm.1; omega
    have HNS : Hid (∀ b ∈ nodes, b.size ≤ 1048576) := by have := hwsm.2; rw [← hnodes] at this; exact Lib.hid this
    have HND : Hid (∀ M, IsN (bs s) M → M.nodes = nodes) := fun M h => by rw [hnodes]; exact nodes_of h (by rw [← hP]; exact hx0)
    have HN := Lib.hid hnodes
    clear hf2 hlk hs4 hP hcell hx0 hsx0 hwsm ho hsl hnodes
    go_upto_region 4 with fail
    go_cut [6] (fun z6 wx => ∃ (bN : Nat) (qn : Option Addr) (cnn : Nat) (wm : World), z6 = .pointer (some ⟨bN, 0, none⟩) ∧ RowAt wx bN 34 [.slice qn nodes.length cnn, .slice none 0 0] ∧ Strs wm qn nodes ∧ nodes.length ≤ cnn ∧ cnn ≤ 9223372036854775807 ∧ wm.heap.size ≤ bN ∧ Fresh w2 wm ∧ Fresh wm wx)
    case first =>
      go_wp2_with fail
      refine (HSP.out).mono ?_
      clear HSP
      rintro e w3 ⟨v3, rfl, ho3, hf3⟩
      obtain ⟨W, hW⟩ : ∃ W, W = splitC 32 x0 := ⟨_, rfl⟩
      rw [bs_ba, ← hW] at ho3
      have hw0 : 0 < W.length := by rw [hW]; exact Nat.pos_of_ne_zero fun h => splitC_ne 32 _ (List.eq_nil_of_length_eq_zero h)
      obtain ⟨gn, cn, rfl, hcn1, hcn2, hcelln⟩ := strs_rowC ho3 hw0
      have hnd : nodes = (W.drop 1).map ba := by rw [HN.out, hW]
      have hnl : W.length - 1 = nodes.length := by rw [hnd]; simp
      have HSN := Lib.hid (strs_drop hcelln)
      have HF3 := Lib.hid hf3
      have HND' := Lib.hid hnd
      clear hf3 ho3 hcelln hW hnd l0
      go_wp2
      · go_meet
        case rel =>
          have HW1 : nodes = [] := by rw [HND'.out, List.drop_of_length_le (by omega)]; rfl
          exact ⟨_, _, _, w3, rfl, by rw [← hnl]; exact RowAt.new _ _ _, by rw [HW1]; exact cells_nil _ _, by rw [HW1]; exact Nat.zero_le _, by omega, Nat.le_refl _, HF3.out, fnew (frefl _) _⟩
      · go_meet
        case rel => exact ⟨_, _, _, w3, rfl, by rw [← hnl]; exact RowAt.new _ _ _, by rw [HND'.out]; exact HSN.out, by omega, by omega, Nat.le_refl _, HF3.out, fnew (frefl _) _⟩
    case rest =>
      obtain ⟨bN, qn, cnn, wm, rfl, hrn, hsn, hc1, hc2, hloN, hf3, hfm⟩ := hcut
      have HRN := Lib.hid hrn
      have HSN := Lib.hid hsn
      have HFM := Lib.hid hfm
      replace HF := Lib.hid (fstep HF.out hf3)
      replace HR := Lib.hid (HR.out.keep hf3)
      have hRN : bR < wm.heap.size := HR.out.lt
      have hcn : ∀ (k : Nat) (x : List UInt8), P[k]? = some x → wm.cell? ⟨gl, k, none⟩ = some (.string (ba x)) := fun k x hx => fkeep hf3 (HCE.out k x hx)
      obtain ⟨lst, hlst⟩ : ∃ l, l = (P.drop 1).map ba := ⟨_, rfl⟩
      have hll : P.length - 1 = lst.length := by rw [hlst]; simp
      have HLS := Lib.hid (strs_drop hcn)
      rw [← hlst] at HLS
      have HLL := Lib.hid hlst
      clear l0 hf3 hfm hrn hsn hcn HCE hlst HN HSP
      go_upto_region 5 with fail
      go_cut [4, 28, 29, 30] (fun z4 z28 z29 z30 wx => ∃ (ql : Option Addr) (cll c4 : Nat), z4 = .slice (some ⟨gl, 0, none⟩) P.length c4 ∧ z28 = .slice ql lst.length cll ∧ z29 = .int .i64 lst.length ∧ z30 = .int .i64 0 ∧ wx = wc ∧ Strs wm ql lst)
      case first =>
        go_wp2
        · go_meet
          case rel =>
            have HW1 : lst = [] := by rw [HLL.out, List.drop_of_length_le (by omega)]; rfl
            exact ⟨_, _, _, rfl, rfl, rfl, rfl, rfl, by rw [HW1]; exact cells_nil _ _⟩
        · go_meet
          case rel => exact ⟨_, _, _, rfl, rfl, rfl, rfl, rfl, HLS.out⟩
      case rest =>
        obtain ⟨ql, cll, c4, rfl, rfl, rfl, rfl, rfl, hls⟩ := hcut
        replace HLS := Lib.hid hls
        have HMM : Hid (∀ M, IsN (bs s) M → M.nodes = nodes ∧ ([] : List Fib) = M.fibers.take 0) := fun M h => ⟨HND.out M h, by simp⟩
        have hll4 : lst.length ≤ 4000 := by omega
        have HLP := Lib.hid hll
        clear hls hll
        go_wp2
        go_loopw [30] (fun i wr => ∃ (k : Nat) (V : Value) (F : List Fib), k ≤ lst.length ∧ i = .int .i64 k ∧ F.length = k ∧ RowAt wr bN 34 [.slice qn nodes.length cnn, V] ∧ wr.ownsRow wm.heap.size 96 4 V F.length (F.flatMap fibC) ∧ Hid (∀ M, IsN (bs s) M → M.nodes = nodes ∧ F = M.fibers.take k) ∧ Fresh wm wr) (fun i _ => lst.length - (intOf i).toNat)
        case atStart => exact ⟨0, .slice none 0 0, [], Nat.zero_le _, rfl, rfl, HRN.out, World.ownsRow_nil _ _ _ _, HMM.out, HFM.out⟩
        case round =>
          obtain ⟨k, V, F, hk, rfl, hFl, hrn, how, HMK, hf⟩ := hrel
          obtain ⟨pV, cV, rfl, hoV, hcV1, hcV2⟩ := owns_cap how
          have HFW := Lib.hid (fstep HF.out hf)
          have HFR := Lib.hid hf
          have HRN2 := Lib.hid hrn
          have HOW := Lib.hid how
          have HFL := Lib.hid hFl
          have hF4 : F.length ≤ 1048576 := by omega
          by_cases hlt : k < lst.length
          · have hltz : (k : Int) < (lst.length : Int) := by omega
            have hw1 : IntKind.i64.wrap ((k : Int) + 1) = (k : Int) + 1 := by rw [IntKind.wrap_i64]; omega
            obtain ⟨bl, ol, x, hqe, hx, hcx⟩ := (HLS.out.keep hf).at hlt
            subst hqe
            obtain ⟨y, hy, hyx⟩ : ∃ y, P[k + 1]? = some y ∧ ba y = x := by
              rw [HLL.out, List.getElem?_map, List.getElem?_drop] at hx
              cases hy : P[1 + k]? with
              | none => rw [hy] at hx; cases hx
              | some y => rw [hy] at hx; exact ⟨y, by rw [Nat.add_comm]; exact hy, Option.some.inj hx⟩
            have hyb : bs x = y := by rw [← hyx, bs_ba]
            have HRF := Lib.hid (readFiber_any qn pV cnn F.length cV nodes x wr (HSN.out.keep hf) hnn (by rw [← hyx]; exact HSL.out _ _ hy) (HT.out.keep HFW.out) (HS.out.keep HFW.out) (HM.out.keep HFW.out))
            rw [hyb] at HRF
            have HY : Hid ((splitC 10 (bs s).dropLast)[k + 1]? = some y) := by show _ = _; rw [← HP.out]; exact hy
            have n0 := hrn.cell (i := 0) rfl
            have n1 := hrn.cell (i := 1) rfl
            clear hf how hrn hoV hx hy hyx hyb hFl
            go_wp2_with fail
            refine (HRF.out).mono ?_
            clear HRF
            rintro e w4 ⟨a, b, c, d, kk, rfl, hf4, hall⟩
            have HN4 := Lib.hid (net_round HY.out HMK.out hall)
            obtain ⟨bX, hbX⟩ : ∃ b, b = w4.heap.size := ⟨_, rfl⟩
            obtain ⟨W5, hW5⟩ : ∃ W, W = w4.alloc (.cells #[.int .i64 a, .int .i64 b, .int .i64 c, .int .i64 d] 96) := ⟨_, rfl⟩
            have hf5 : Fresh wr W5 := by rw [hW5]; exact fnew hf4 _
            have HX5 : Hid (RowAt W5 bX 96 [.int .i64 a, .int .i64 b, .int .i64 c, .int .i64 d]) := by show RowAt _ _ _ _; rw [hW5, hbX]; exact RowAt.new _ _ _
            have HF5 := Lib.hid hf5
            have HRN5 := Lib.hid (HRN2.out.keep hf5)
            have HR5 := Lib.hid ((HR.out.keep HFR.out).keep hf5)
            have HOW5 := Lib.hid (ownsRow_keep HOW.out hf5)
            have HW5 := Lib.hid hW5
            have HBX := Lib.hid hbX
            have HFW5 := Lib.hid (fstep HFR.out hf5)
            clear hW5 hbX hf5 hf4 hall n0 n1 hcx
            go_upto_region 9 with fail
            rw [← HW5.out, ← HBX.out]
            cases kk with
            | false =>
              have HNO : Hid (∀ M, ¬ IsN (bs s) M) := fun M h => by have := (HN4.out M h).1; cases this
              have x0 := HR5.out.cell (i := 0) rfl
              have x1 := HR5.out.cell (i := 1) rfl
              have u0 := HR5.out.frozen 0
              have u1 := HR5.out.frozen 1
              have hfin := (HR5.out.set 0 (.slice none 0 0)).set 1 (.slice none 0 0)
              have k0 := hfin.cell (i := 0) rfl
              have k1 := hfin.cell (i := 1) rfl
              have HFF := Lib.hid (fset (fset (fstep HF.out HFW5.out) hlo (o := 0) (.slice none 0 0)) hlo (o := 1) (.slice none 0 0))
              clear hfin
              go_wp2
              refine bodyPost_ret (v := .tuple #[.agg #[.slice none 0 0, .slice none 0 0], .bool false]) (by simp [results, Tryz.results31, go_sem, k0, k1]) rfl ?_
              exact Or.inl ⟨HNO.out, rfl, HFF.out⟩
            | true =>
              have n1 := HRN5.out.cell (i := 1) rfl
              have f0 := HX5.out.cell (i := 0) rfl
              have f1 := HX5.out.cell (i := 1) rfl
              have f2 := HX5.out.cell (i := 2) rfl
              have f3 := HX5.out.cell (i := 3) rfl
              go_wp2_with (at_builtin; refine wpList_app_b Tryz.underlying32 infoFib rfl (by decide) (by decide) wm W5 _ F.length (F.flatMap fibC) (fibC ⟨a, b, c, d⟩) _ rfl (one_fibC ⟨a, b, c, d⟩) rfl _ _ rfl rfl HOW5.out rfl rfl hF4 HFW5.out ?_; intro v3 w3 hown3 hf3 hk3; obtain ⟨r3, e3, hv3, _⟩ := owns_cap hown3; subst hv3; have hrn3 := hk3 _ _ _ HRN5.out (Or.inl (by decide)); have z1 := hrn3.frozen 1; have y1 := hrn3.cell (i := 1) rfl)
              go_wp2
              go_roundw
              case rel =>
                refine ⟨k + 1, .slice r3 (F.length + 1) e3, F ++ [⟨a, b, c, d⟩], by omega, by go_num, by simp [HFL.out], hrn3.set 1 _, ?_, fun M h => ⟨(HMK.out M h).1, (HN4.out M h).2⟩, fset hf3 hloN _⟩
                have := owns_setO (u := .slice r3 (F.length + 1) e3) hown3 hrn3 (by decide) 1
                rw [List.length_append, List.flatMap_append]
                simpa using this
              case measure => simp [intOf]; omega
          · have hltz : ¬ (k : Int) < (lst.length : Int) := by omega
            have hkl : k = lst.length := by omega
            have HMD : Hid (∀ M, IsN (bs s) M → M = ⟨nodes, F⟩) := net_done HMK.out (by rw [← HP.out]; have := HLP.out; omega)
            have HNI : Hid (NetIn wr (.agg #[.slice qn nodes.length cnn, .slice pV F.length cV]) ⟨nodes, F⟩) := ⟨_, _, _, _, rfl, HSN.out.keep HFR.out, hoV.cells, hnn, hF4, hc1, hc2, HNS.out⟩
            have HFN := Lib.hid (formatNetwork_any _ _ wr HNI.out (HT.out.keep HFW.out))
            unfold OutFn at HFN
            have n0 := hrn.cell (i := 0) rfl
            have n1 := hrn.cell (i := 1) rfl
            clear hf how hrn hoV hFl
            cases hb : netB ⟨nodes, F⟩ with
            | false =>
              rw [hb, if_neg (by simp)] at HFN
              have HB := Lib.hid hb
              clear hb
              go_wp2_with fail
              refine (HFN.out).mono ?_
              clear HFN
              rintro e w4 ⟨rfl, hf4⟩
              have HNO : Hid (∀ M, ¬ IsN (bs s) M) := fun M h => by
                have h2 := HMD.out M h
                subst h2
                have h3 := h.1
                rw [HB.out] at h3
                cases h3
              have HRX := Lib.hid (HR.out.keep (fstep HFR.out hf4))
              have x0 := HRX.out.cell (i := 0) rfl
              have x1 := HRX.out.cell (i := 1) rfl
              have u0 := HRX.out.frozen 0
              have u1 := HRX.out.frozen 1
              have hfin := (HRX.out.set 0 (.slice none 0 0)).set 1 (.slice none 0 0)
              have k0 := hfin.cell (i := 0) rfl
              have k1 := hfin.cell (i := 1) rfl
              have HFF := Lib.hid (fset (fset (fstep HFW.out hf4) hlo (o := 0) (.slice none 0 0)) hlo (o := 1) (.slice none 0 0))
              clear hfin hf4
              go_wp2
              refine bodyPost_ret (v := .tuple #[.agg #[.slice none 0 0, .slice none 0 0], .bool false]) (by simp [results, Tryz.results31, go_sem, k0, k1]) rfl ?_
              exact Or.inl ⟨HNO.out, rfl, HFF.out⟩
            | true =>
              rw [hb, if_pos rfl] at HFN
              have HB := Lib.hid hb
              clear hb
              obtain ⟨t, ht⟩ : ∃ t, t = ba (netX ⟨nodes, F⟩) := ⟨_, rfl⟩
              rw [← ht] at HFN
              by_cases he : t = s
              · have hd := streq he
                have HIS : Hid (IsN (bs s) ⟨nodes, F⟩) := ⟨HB.out, by rw [← he, ht, bs_ba]⟩
                clear he ht
                go_wp2_with fail
                refine (HFN.out).mono ?_
                clear HFN
                rintro e w4 ⟨rfl, hf4⟩
                have HF4 := Lib.hid hf4
                replace n0 := fkeep hf4 n0
                replace n1 := fkeep hf4 n1
                have HCN := Lib.hid (copyNetwork_any _ _ w4 (HNI.out.keep hf4))
                clear hf4
                go_wp2_with fail
                refine (HCN.out).mono ?_
                clear HCN
                rintro e w5 ⟨q5, c5, p5, d5, rfl, ho5, ho5b, h51, h52, hf5⟩
                simp only at ho5 ho5b h51
                have HF5 := Lib.hid (fstep HFW.out (fstep HF4.out hf5))
                have HO5 := Lib.hid (ho5.mono (fstep HFW.out HF4.out).size)
                have HO5b := Lib.hid (ho5b.mono (fstep HFW.out HF4.out).size)
                have HRX := Lib.hid (HR.out.keep (fstep HFR.out (fstep HF4.out hf5)))
                have x0 := HRX.out.cell (i := 0) rfl
                have x1 := HRX.out.cell (i := 1) rfl
                have u0 := HRX.out.frozen 0
                have u1 := HRX.out.frozen 1
                have hfin := (HRX.out.set 0 (.slice q5 nodes.length c5)).set 1 (.slice p5 F.length d5)
                have k0 := hfin.cell (i := 0) rfl
                have k1 := hfin.cell (i := 1) rfl
                have HFF := Lib.hid (fset (fset HF5.out hlo (o := 0) (.slice q5 nodes.length c5)) hlo (o := 1) (.slice p5 F.length d5))
                clear hfin hf5 ho5 ho5b n0 n1
                go_wp2
                refine bodyPost_ret (v := .tuple #[.agg #[.slice q5 nodes.length c5, .slice p5 F.length d5], .bool true]) (by simp [results, Tryz.results31, go_sem, k0, k1]) rfl ?_
                exact Or.inr ⟨⟨nodes, F⟩, q5, c5, p5, d5, HIS.out, HMD.out, rfl, (HO5.out.setO HRX.out (by decide) _ _).setO (HRX.out.set 0 _) (by decide) _ _, (HO5b.out.setO HRX.out (by decide) _ _).setO (HRX.out.set 0 _) (by decide) _ _, h51, h52, HFF.out⟩
              · have hd := strne he
                have HNE : Hid (∀ M, IsN (bs s) M → False) := fun M h => by
                  have h2 := HMD.out M h
                  subst h2
                  exact he (by rw [ht, h.2, ba_bs])
                clear he ht
                go_wp2_with fail
                refine (HFN.out).mono ?_
                clear HFN
                rintro e w4 ⟨rfl, hf4⟩
                have HNO : Hid (∀ M, ¬ IsN (bs s) M) := fun M h => by
                  have h2 := HMD.out M h
                  subst h2
                  exact HNE.out _ h
                have HRX := Lib.hid (HR.out.keep (fstep HFR.out hf4))
                have x0 := HRX.out.cell (i := 0) rfl
                have x1 := HRX.out.cell (i := 1) rfl
                have u0 := HRX.out.frozen 0
                have u1 := HRX.out.frozen 1
                have hfin := (HRX.out.set 0 (.slice none 0 0)).set 1 (.slice none 0 0)
                have k0 := hfin.cell (i := 0) rfl
                have k1 := hfin.cell (i := 1) rfl
                have HFF := Lib.hid (fset (fset (fstep HFW.out hf4) hlo (o := 0) (.slice none 0 0)) hlo (o := 1) (.slice none 0 0))
                clear hfin hf4 n0 n1
                go_wp2
                refine bodyPost_ret (v := .tuple #[.agg #[.slice none 0 0, .slice none 0 0], .bool false]) (by simp [results, Tryz.results31, go_sem, k0, k1]) rfl ?_
                exact Or.inl ⟨HNO.out, rfl, HFF.out⟩
end Go.Proofs.YtjhaoonacjebpaaGreatDoor
