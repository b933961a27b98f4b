/- Contracts: the lines of a network are read, the reference's side. (Printed by gen_qs2.py.) -/
import Derived.Test.YtjhaoonacjebpaaGreatDoorQs1
import Derived.Test.YtjhaoonacjebpaaGreatDoorPp1
namespace Go.Proofs.YtjhaoonacjebpaaGreatDoor
open Go.RowKit Go.PlainAid

theorem sp_exit {s : List UInt8} {P : PlanV} {k : Nat} {nodes : List ByteArray} {F : List Fib} (hP : IsPlan s P) (h1 : P.net.nodes = nodes) (h2 : F = P.net.fibers.take k) (h3 : k ≤ P.net.fibers.length)
    (hno : ∀ x, (splitC 10 s)[k + 1]? = some x → ¬ (5 < x.length ∧ x.take 5 = [102, 105, 98, 101, 114])) : P.net = ⟨nodes, F⟩ ∧ P.net.fibers.length = k := by
  have hlen := sp_len hP
  by_cases hlt : k < P.net.fibers.length
  · exfalso
    have hx : (splitC 10 s)[k + 1]? = some ((splitC 10 s)[k + 1]'(by omega)) := List.getElem?_eq_getElem (by omega)
    obtain ⟨g, _, hg⟩ := sp_fib hP hx hlt
    refine hno _ hx ?_
    rw [← hg]; exact fib_pre _ _
  · refine ⟨?_, by omega⟩
    rw [List.take_of_length_le (by omega)] at h2
    obtain ⟨⟨a, b⟩, c⟩ := P
    simp only at h1 h2
    subst h1 h2
    rfl
theorem sp_step {s : List UInt8} {nodes : List ByteArray} {F : List Fib} {k : Nat} {x : List UInt8} {g : Fib} {b : Bool} (hx : (splitC 10 s)[k + 1]? = some x) (h5 : 5 < x.length ∧ x.take 5 = [102, 105, 98, 101, 114])
    (hM : ∀ P, IsPlan s P → P.net.nodes = nodes ∧ F = P.net.fibers.take k ∧ k ≤ P.net.fibers.length) (hr : ∀ M : Net, netB M = true → M.nodes = nodes → ∀ g' ∈ M.fibers, splitC 32 (fibL nodes g') = splitC 32 x → b = true ∧ g' = g) :
    ∀ P, IsPlan s P → b = true ∧ F ++ [g] = P.net.fibers.take (k + 1) ∧ k + 1 ≤ P.net.fibers.length := by
  intro P hP
  obtain ⟨h1, h2, h3⟩ := hM P hP
  by_cases hlt : k < P.net.fibers.length
  · obtain ⟨g', hg, hgx⟩ := sp_fib hP hx hlt
    obtain ⟨r1, r2⟩ := hr P.net (planX_net hP.1) h1 g' (List.mem_of_getElem? hg) (by rw [← h1, hgx])
    subst r2
    exact ⟨r1, by rw [h2]; exact take_snoc hg, by omega⟩
  · exact absurd h5 (sp_nofib hP hx (by omega))
/-- The network of lines, the number of the first line behind it, and whether it is one. -/
def OutLl (s : List UInt8) (w : World) (e : Ending) (w' : World) : Prop := ∃ (q p : Option Addr) (c d : Nat) (M : Net) (k : Nat) (ok : Bool), e = .returned (.tuple #[.agg #[.slice q M.nodes.length c, .slice p M.fibers.length d], .int .i64 ((k : Int) + 1), .bool ok]) ∧ k + 1 ≤ (splitC 10 s).length ∧ (ok = true → netB M = true ∧ NetIn w' (.agg #[.slice q M.nodes.length c, .slice p M.fibers.length d]) M) ∧ Fresh w w' ∧
  ∀ P, IsPlan s P → ok = true ∧ P.net = M ∧ k = P.net.fibers.length
theorem Cells.setBlk {w : World} {p : Option Addr} {cs : List Value} (h : Cells w p cs) {b : Nat} (hb : ∀ g o, p = some ⟨g, o, none⟩ → g ≠ b) (o : Nat) (v : Value) : Cells (w.setCell ⟨b, o, none⟩ v) p cs := by
  rcases h with h | ⟨g, off, hp, hc⟩
  · exact Or.inl h
  · refine Or.inr ⟨g, off, hp, fun k u hu => ?_⟩
    have := hc k u hu
    unfold World.cell? at this ⊢
    rw [Below.heap_setCell _ _ _ _ (hb g off hp)]; exact this
theorem strs_cells {w : World} {base g c : Nat} {P : List (List UInt8)} (h0 : 0 < P.length) (h : w.ownsRow base 9 1 (.slice (some ⟨g, 0, none⟩) P.length c) P.length (strs P)) : ∀ (k : Nat) (x : List UInt8), P[k]? = some x → w.cell? ⟨g, k, none⟩ = some (.string (ba x)) := by
  obtain ⟨g', c', hv, hc⟩ := strs_row h h0
  cases hv
  exact hc
set_option maxHeartbeats 8000000 in
set_option maxRecDepth 100000 in
theorem l3Lines_any (s : List UInt8) (hs4 : s.length ≤ 4000) (gl cl : Nat) (P : List (List UInt8)) (hP : P = splitC 10 s) (w : World) (hcell : ∀ (k : Nat) (x : List UInt8), P[k]? = some x → w.cell? ⟨gl, k, none⟩ = some (.string (ba x))) :
    Calls Tryz.prog 28 #[.slice (some ⟨gl, 0, none⟩) P.length cl] w (OutLl s w) := by
  obtain ⟨bR, hbR⟩ : ∃ b, b = w.heap.size := ⟨_, rfl⟩
  obtain ⟨W1, hW1⟩ : ∃ W, W = w.alloc (.cells #[.slice none 0 0, .slice none 0 0] 34) := ⟨_, rfl⟩
  have hf1 : Fresh w W1 := by rw [hW1]; exact fnew (frefl _) _
  have HR : Hid (RowAt W1 bR 34 [.slice none 0 0, .slice none 0 0]) := by show RowAt _ _ _ _; rw [hW1, hbR]; exact RowAt.new _ _ _
  have hlo : w.heap.size ≤ bR := by omega
  have hp0 : 0 < P.length := by rw [hP]; exact Nat.pos_of_ne_zero fun h => splitC_ne 10 _ (List.eq_nil_of_length_eq_zero h)
  have hp1 : P.length ≤ 4001 := by rw [hP]; have h1 := (splitC_small 10 s).1; omega
  have HPS : Hid (∀ x ∈ P, x.length ≤ 4000) := fun x hx => by rw [hP] at hx; have := (splitC_small 10 s).2 x hx; omega
  obtain ⟨x0, hx0⟩ : ∃ x0, P[0]? = some x0 := ⟨P[0], List.getElem?_eq_getElem hp0⟩
  obtain ⟨nodes, hnodes⟩ : ∃ nodes, nodes = ((splitC 32 x0).drop 1).map ba := ⟨_, rfl⟩
  have hx0s : x0.length ≤ 4000 := HPS.out x0 (List.mem_of_getElem? hx0)
  have hw32 := splitC_small 32 x0
  have hnn : nodes.length ≤ 1048576 := by rw [hnodes, List.length_map, List.length_drop]; have := hw32.1; omega
  have HNS : Hid (∀ b ∈ nodes, b.size ≤ 1048576) := fun b hb => by
    rw [hnodes] at hb
    obtain ⟨y, hy, rfl⟩ := List.mem_map.1 hb
    have := hw32.2 y (List.mem_of_mem_drop hy)
    rw [ba_size]; omega
  have HND : Hid (∀ R, IsPlan s R → R.net.nodes = nodes) := fun R h => by rw [hnodes]; exact sp_head h (by rw [← hP]; exact hx0)
  have HN := Lib.hid hnodes
  have HCE := Lib.hid (fun k x hx => fkeep hf1 (hcell k x hx))
  have l0 := HCE.out 0 x0 hx0
  have HSP := Lib.hid (l1Split_any (ba x0) 32 W1 (by rw [ba_size]; omega))
  have HF1 := Lib.hid hf1
  have HW1 := Lib.hid hW1
  have HBR := Lib.hid hbR
  have HPE := Lib.hid hP
  clear hW1 hf1 hbR hP hcell hx0 hnodes hx0s hw32 hs4
  go_enter Tryz.func28, Tryz.ntmps28
  go_upto_region 1 with fail
  rw [← HW1.out, ← HBR.out]
  go_wp2_with fail
  refine (HSP.out).mono ?_
  clear HSP
  rintro e w3 ⟨v3, rfl, ho3, hf3⟩
  obtain ⟨W, hW⟩ : ∃ W, W = splitC 32 x0 := ⟨_, rfl⟩
  rw [bs_ba, ← hW] at ho3
  have hw0 : 0 < W.length := by rw [hW]; exact Nat.pos_of_ne_zero fun h => splitC_ne 32 _ (List.eq_nil_of_length_eq_zero h)
  obtain ⟨gn, cn, rfl, hcn1, hcn2, hcelln⟩ := strs_rowC ho3 hw0
  have hnd : nodes = (W.drop 1).map ba := by rw [HN.out, hW]
  have hnl : W.length - 1 = nodes.length := by rw [hnd]; simp
  have HSN := Lib.hid (strs_drop hcelln)
  obtain ⟨gn', cn', cls, hve, hrl, _⟩ := strs_rowR ho3 hw0
  cases hve
  have hgR : gn ≠ bR := row_ne hrl (HR.out.keep hf3) (by decide)
  have HND' := Lib.hid hnd
  have HF3 := Lib.hid (fstep HF1.out hf3)
  have HR3 := Lib.hid (HR.out.keep hf3)
  have HCE3 := Lib.hid (fun k x hx => fkeep hf3 (HCE.out k x hx))
  clear hf3 ho3 hcelln hW hnd l0 hrl
  go_upto_region 2 with fail
  go_cut [5, 6] (fun z5 z6 wx => ∃ (bN : Nat) (qn : Option Addr) (cnn c5 : Nat), z5 = .slice (some ⟨gn, 0, none⟩) W.length c5 ∧ z6 = .pointer (some ⟨bN, 0, none⟩) ∧ RowAt wx bN 34 [.slice qn nodes.length cnn, .slice none 0 0] ∧ Strs w3 qn nodes ∧ nodes.length ≤ cnn ∧ cnn ≤ 9223372036854775807 ∧ w3.heap.size ≤ bN ∧ Fresh w3 wx ∧ ∀ g o, qn = some ⟨g, o, none⟩ → g = gn)
  case first =>
    go_wp2
    · go_meet
      case rel =>
        have HW1 : nodes = [] := by rw [HND'.out, List.drop_of_length_le (by omega)]; rfl
        exact ⟨_, _, _, _, rfl, rfl, by rw [← hnl]; exact RowAt.new _ _ _, by rw [HW1]; exact cells_nil _ _, by rw [HW1]; exact Nat.zero_le _, by omega, Nat.le_refl _, fnew (frefl _) _, fun g o h => by cases h; rfl⟩
    · go_meet
      case rel => exact ⟨_, _, _, _, rfl, rfl, by rw [← hnl]; exact RowAt.new _ _ _, by rw [HND'.out]; exact HSN.out, by omega, by omega, Nat.le_refl _, fnew (frefl _) _, fun g o h => by cases h; rfl⟩
  case rest =>
    obtain ⟨bN, qn, cnn, c5, rfl, rfl, hrn, hsn, hc1, hc2, hloN, hfm, hqg⟩ := hcut
    have HQG : Hid (∀ g o, qn = some ⟨g, o, none⟩ → g ≠ bR) := fun g o h => by rw [hqg g o h]; exact hgR
    have HRN := Lib.hid hrn
    have HSN' := Lib.hid hsn
    have HFM := Lib.hid hfm
    have hRN : bR < w3.heap.size := HR3.out.lt
    have HMM : Hid (∀ R, IsPlan s R → R.net.nodes = nodes ∧ ([] : List Fib) = R.net.fibers.take 0 ∧ 0 ≤ R.net.fibers.length) := fun R h => ⟨HND.out R h, by simp, Nat.zero_le _⟩
    clear hrn hsn hfm hqg HSN HND' HN HND hnl hcn1 hcn2
    go_wp2
    go_loopw [7] (fun i wr => ∃ (k : Nat) (V : Value) (F : List Fib), k + 1 ≤ P.length ∧ i = .int .i64 ((k : Int) + 1) ∧ F.length = k ∧ RowAt wr bN 34 [.slice qn nodes.length cnn, V] ∧ wr.ownsRow w3.heap.size 96 4 V F.length (F.flatMap fibC) ∧ Hid (∀ R, IsPlan s R → R.net.nodes = nodes ∧ F = R.net.fibers.take k ∧ k ≤ R.net.fibers.length) ∧ Fresh w3 wr) (fun i _ => P.length + 1 - (intOf i).toNat)
    case atStart => exact ⟨0, .slice none 0 0, [], by omega, rfl, rfl, HRN.out, World.ownsRow_nil _ _ _ _, HMM.out, HFM.out⟩
    case round =>
      obtain ⟨k, V, F, hk, rfl, hFl, hrn, how, HMK, hf⟩ := hrel
      obtain ⟨pV, cV, rfl, hoV, hcV1, hcV2⟩ := owns_cap how
      have HFR := Lib.hid hf
      have HFW := Lib.hid (fstep HF3.out hf)
      have HRN2 := Lib.hid hrn
      have HOW := Lib.hid how
      have HFL := Lib.hid hFl
      have hF4 : F.length ≤ 1048576 := by omega
      have HRX := Lib.hid (HR3.out.keep hf)
      have n0 := hrn.cell (i := 0) rfl
      have n1 := hrn.cell (i := 1) rfl
      have HOV := Lib.hid hoV
      by_cases hlt : k + 1 < P.length
      · have hltz : (k : Int) + 1 < (P.length : Int) := by omega
        have hw1 : IntKind.i64.wrap ((k : Int) + 1 + 1) = (k : Int) + 1 + 1 := by rw [IntKind.wrap_i64]; omega
        have hi0 : 0 ≤ (k : Int) + 1 := by omega
        have hi1 : ((k : Int) + 1).toNat = k + 1 := by omega
        obtain ⟨x, hx⟩ : ∃ x, P[k + 1]? = some x := ⟨P[k + 1], List.getElem?_eq_getElem hlt⟩
        have hcx := fkeep hf (HCE3.out (k + 1) x hx)
        have hxs : x.length ≤ 4000 := HPS.out x (List.mem_of_getElem? hx)
        have hbx : (ba x).size = x.length := ba_size x
        have HX : Hid ((splitC 10 s)[k + 1]? = some x) := by show _ = _; rw [← HPE.out]; exact hx
        clear hf how hrn hoV hFl hx
        by_cases h5 : 5 < x.length
        · have h5z : (5 : Int) < (x.length : Int) := by omega
          have h5s : 5 ≤ (ba x).size := by omega
          by_cases ht : x.take 5 = [102, 105, 98, 101, 114]
          · have hd := lbeq ht
            have hex : (ba x).extract 0 5 = ba (x.take 5) := by rw [ext_cut (by omega) (by omega), bs_ba, List.drop_zero]
            have HT5 := Lib.hid ht
            obtain ⟨XW, hXW⟩ : ∃ W, W = splitC 32 x := ⟨_, rfl⟩
            have hxw0 : 0 < XW.length := by rw [hXW]; exact Nat.pos_of_ne_zero fun h => splitC_ne 32 _ (List.eq_nil_of_length_eq_zero h)
            have HXS : Hid (∀ y ∈ XW, (ba y).size ≤ 1048576) := fun y hy => by rw [hXW] at hy; have := (splitC_small 32 x).2 y hy; rw [ba_size]; omega
            have HXW := Lib.hid hXW
            have HSN2 := Lib.hid (HSN'.out.keep HFR.out)
            clear ht hXW
            go_upto_region 5 with fail
            go_cut [8, 9] (fun z8 z9 wx => ∃ (gb : Nat) (a b c d : Int) (kk : Bool), z8 = .pointer (some ⟨gb, 0, none⟩) ∧ z9 = .bool kk ∧ RowAt wx gb 96 [.int .i64 a, .int .i64 b, .int .i64 c, .int .i64 d] ∧ Hid (∀ M : Net, netB M = true → M.nodes = nodes → ∀ g ∈ M.fibers, splitC 32 (fibL nodes g) = XW → kk = true ∧ g = ⟨a, b, c, d⟩) ∧ Fresh wr wx ∧ wr.heap.size ≤ gb)
            case first =>
              refine hd_start (n := 12) (S := fun wz => wz.cell? ⟨bN, 0, none⟩ = some (.slice qn nodes.length cnn) ∧ wz.cell? ⟨bN, 1, none⟩ = some (.slice pV F.length cV) ∧ wz.cell? ⟨gl, k + 1, none⟩ = some (.string (ba x))) (by kernel_rfl) (by kernel_rfl) ⟨fkeep (fdrew (frefl _)) n0, fkeep (fdrew (frefl _)) n1, fkeep (fdrew (frefl _)) hcx⟩ (fun hHeld => ?_)
              obtain ⟨Wz, hWz⟩ : ∃ W, W = wr.drew := ⟨_, rfl⟩
              rw [← hWz] at hHeld ⊢
              have f0 : Fresh wr Wz := by rw [hWz]; exact fdrew (frefl _)
              clear hWz
              refine hd_tk (i := 0) (v := ?_) rfl ?_ ?_
              rotate_left
              · (intro w hSw; (try dsimp only at hSw); go_simp; first | done | with_reducible rfl)
              try simp only [PU]
              refine hd_tk (i := 1) (v := ?_) rfl ?_ ?_
              rotate_left
              · (intro w hSw; (try dsimp only at hSw); go_simp; first | done | with_reducible rfl)
              try simp only [PU]
              refine hd_tk (i := 2) (v := ?_) rfl ?_ ?_
              rotate_left
              · (intro w hSw; (try dsimp only at hSw); go_simp; first | done | with_reducible rfl)
              try simp only [PU]
              refine hd_tk (i := 3) (v := ?_) rfl ?_ ?_
              rotate_left
              · (intro w hSw; (try dsimp only at hSw); go_simp; first | done | with_reducible rfl)
              try simp only [PU]
              refine hd_tk (i := 4) (v := ?_) rfl ?_ ?_
              rotate_left
              · (intro w hSw; (try dsimp only at hSw); go_simp; first | done | with_reducible rfl)
              try simp only [PU]
              refine hd_ready (rs := [5, 10]) (by kernel_rfl) (by simp) ?_
              refine hd_cons (i := 5) rfl (by kernel_rfl) (fun K hK => ?_) ?_
              · skip
                go_simp
                go_at_call 27
                refine (l1Split_any (ba x) 32 _ (by omega)).mono ?_
                rintro e wk1 ⟨v2, rfl, how2, hb1⟩
                rw [bs_ba, ← HXW.out] at how2
                obtain ⟨g2, c2, hve, _⟩ := strs_row how2 hxw0
                subst hve
                have fk1 := fstep f0 hb1
                go_wp2_with fail
                refine hK.out _ _ ?_ (fun hHeld => ?_)
                · exact ⟨fkeep fk1 n0, fkeep fk1 n1, fkeep fk1 hcx⟩
                clear hK K
                try simp only [PU]
                refine hd_ready (rs := [6, 10]) (by kernel_rfl) (by simp) ?_
                refine hd_cons (i := 6) rfl (by kernel_rfl) (fun K hK => ?_) ?_
                · skip
                  go_simp
                  go_at_call 60
                  refine (l3Fiber_any qn pV cnn F.length cV nodes g2 c2 XW _ (HSN2.out.keep fk1) hnn hxw0 (strs_cells hxw0 how2) HXS.out).mono ?_
                  rintro e wk2 ⟨a, b, c, d, kk, rfl, hb2, hall⟩
                  have HAL := Lib.hid hall
                  clear hall
                  have fk2 := fstep fk1 hb2
                  replace how2 := ownsRow_keep how2 hb2
                  go_wp2_with fail
                  refine hK.out _ _ ?_ (fun hHeld => ?_)
                  · exact ⟨fkeep fk2 n0, fkeep fk2 n1, fkeep fk2 hcx⟩
                  clear hK K
                  try simp only [PU]
                  refine hd_tk (i := 7) (v := ?_) rfl ?_ ?_
                  rotate_left
                  · (intro w hSw; (try dsimp only at hSw); go_simp; first | done | with_reducible rfl)
                  try simp only [PU]
                  refine hd_tk (i := 8) (v := ?_) rfl ?_ ?_
                  rotate_left
                  · (intro w hSw; (try dsimp only at hSw); go_simp; first | done | with_reducible rfl)
                  try simp only [PU]
                  refine hd_tk (i := 9) (v := ?_) rfl ?_ ?_
                  rotate_left
                  · (intro w hSw; (try dsimp only at hSw); go_simp; first | done | with_reducible rfl)
                  try simp only [PU]
                  refine hd_one (i := 10) rfl (by kernel_rfl) (by kernel_rfl) (fun K hK => ?_)
                  go_simp
                  obtain ⟨wk3, hwa⟩ : ∃ W, W = wk2.alloc (.cells #[.int .i64 0, .int .i64 0, .int .i64 0, .int .i64 0] 96) := ⟨_, rfl⟩
                  obtain ⟨gb, hgb⟩ : ∃ g, g = wk2.heap.size := ⟨_, rfl⟩
                  rw [← hwa, ← hgb]
                  have hba : Fresh wk2 wk3 := by rw [hwa]; exact fnew (frefl _) _
                  have ra : RowAt wk3 gb 96 [.int .i64 0, .int .i64 0, .int .i64 0, .int .i64 0] := by rw [hwa, hgb]; exact RowAt.new _ _ _
                  have hga : wr.heap.size ≤ gb := by rw [hgb]; exact fk2.size
                  have fk3 := fstep fk2 hba
                  clear hwa hgb
                  replace how2 := ownsRow_keep how2 hba
                  clear hba
                  refine hK.out _ _ ?_ (fun hHeld => ?_)
                  · exact ⟨fkeep fk3 n0, fkeep fk3 n1, fkeep fk3 hcx⟩
                  clear hK K
                  try simp only [PU]
                  have zc0 := ra.cell (i := 0) rfl
                  have uc0 := ra.frozen 0
                  have zc1 := ra.cell (i := 1) rfl
                  have uc1 := ra.frozen 1
                  have zc2 := ra.cell (i := 2) rfl
                  have uc2 := ra.frozen 2
                  have zc3 := ra.cell (i := 3) rfl
                  have uc3 := ra.frozen 3
                  have fs := fset (fset (fset (fset (fk3) hga (o := 0) (.int .i64 a)) hga (o := 1) (.int .i64 b)) hga (o := 2) (.int .i64 c)) hga (o := 3) (.int .i64 d)
                  refine hd_one (i := 11) rfl (by kernel_rfl) (by kernel_rfl) (fun K hK => ?_)
                  (go_simp)
                  refine hK.out _ _ ?_ (fun hHeld => ?_)
                  · exact ⟨fkeep fs n0, fkeep fs n1, fkeep fs hcx⟩
                  clear hK K
                  try simp only [PU]
                  refine hd_done (by kernel_rfl) ?_
                  clear hHeld
                  simp only [List.drop_succ_cons, List.drop_zero]
                  go_wp2_with fail
                  go_meet
                  have hrow := ((((ra.set 0 (.int .i64 a)).set 1 (.int .i64 b)).set 2 (.int .i64 c)).set 3 (.int .i64 d))
                  case rel => exact ⟨gb, a, b, c, d, kk, rfl, rfl, hrow, HAL.out, fs, hga⟩
                · refine hd_cons (i := 10) rfl (by kernel_rfl) (fun K hK => ?_) hd_nil
                  go_simp
                  obtain ⟨wk4, hwa⟩ : ∃ W, W = wk1.alloc (.cells #[.int .i64 0, .int .i64 0, .int .i64 0, .int .i64 0] 96) := ⟨_, rfl⟩
                  obtain ⟨gb, hgb⟩ : ∃ g, g = wk1.heap.size := ⟨_, rfl⟩
                  rw [← hwa, ← hgb]
                  have hba : Fresh wk1 wk4 := by rw [hwa]; exact fnew (frefl _) _
                  have ra : RowAt wk4 gb 96 [.int .i64 0, .int .i64 0, .int .i64 0, .int .i64 0] := by rw [hwa, hgb]; exact RowAt.new _ _ _
                  have hga : wr.heap.size ≤ gb := by rw [hgb]; exact fk1.size
                  have fk4 := fstep fk1 hba
                  clear hwa hgb
                  replace how2 := ownsRow_keep how2 hba
                  clear hba
                  refine hK.out _ _ ?_ (fun hHeld => ?_)
                  · exact ⟨fkeep fk4 n0, fkeep fk4 n1, fkeep fk4 hcx⟩
                  clear hK K
                  try simp only [PU]
                  refine hd_one (i := 6) rfl (by kernel_rfl) (by kernel_rfl) (fun K hK => ?_)
                  go_simp
                  go_at_call 60
                  refine (l3Fiber_any qn pV cnn F.length cV nodes g2 c2 XW _ (HSN2.out.keep fk4) hnn hxw0 (strs_cells hxw0 how2) HXS.out).mono ?_
                  rintro e wk5 ⟨a, b, c, d, kk, rfl, hb5, hall⟩
                  have HAL := Lib.hid hall
                  clear hall
                  have fk5 := fstep fk4 hb5
                  replace how2 := ownsRow_keep how2 hb5
                  replace ra := ra.keep hb5
                  go_wp2_with fail
                  refine hK.out _ _ ?_ (fun hHeld => ?_)
                  · exact ⟨fkeep fk5 n0, fkeep fk5 n1, fkeep fk5 hcx⟩
                  clear hK K
                  try simp only [PU]
                  refine hd_tk (i := 7) (v := ?_) rfl ?_ ?_
                  rotate_left
                  · (intro w hSw; (try dsimp only at hSw); go_simp; first | done | with_reducible rfl)
                  try simp only [PU]
                  refine hd_tk (i := 8) (v := ?_) rfl ?_ ?_
                  rotate_left
                  · (intro w hSw; (try dsimp only at hSw); go_simp; first | done | with_reducible rfl)
                  try simp only [PU]
                  refine hd_tk (i := 9) (v := ?_) rfl ?_ ?_
                  rotate_left
                  · (intro w hSw; (try dsimp only at hSw); go_simp; first | done | with_reducible rfl)
                  try simp only [PU]
                  have zc0 := ra.cell (i := 0) rfl
                  have uc0 := ra.frozen 0
                  have zc1 := ra.cell (i := 1) rfl
                  have uc1 := ra.frozen 1
                  have zc2 := ra.cell (i := 2) rfl
                  have uc2 := ra.frozen 2
                  have zc3 := ra.cell (i := 3) rfl
                  have uc3 := ra.frozen 3
                  have fs := fset (fset (fset (fset (fk5) hga (o := 0) (.int .i64 a)) hga (o := 1) (.int .i64 b)) hga (o := 2) (.int .i64 c)) hga (o := 3) (.int .i64 d)
                  refine hd_one (i := 11) rfl (by kernel_rfl) (by kernel_rfl) (fun K hK => ?_)
                  (go_simp)
                  refine hK.out _ _ ?_ (fun hHeld => ?_)
                  · exact ⟨fkeep fs n0, fkeep fs n1, fkeep fs hcx⟩
                  clear hK K
                  try simp only [PU]
                  refine hd_done (by kernel_rfl) ?_
                  clear hHeld
                  simp only [List.drop_succ_cons, List.drop_zero]
                  go_wp2_with fail
                  go_meet
                  have hrow := ((((ra.set 0 (.int .i64 a)).set 1 (.int .i64 b)).set 2 (.int .i64 c)).set 3 (.int .i64 d))
                  case rel => exact ⟨gb, a, b, c, d, kk, rfl, rfl, hrow, HAL.out, fs, hga⟩
              · refine hd_cons (i := 10) rfl (by kernel_rfl) (fun K hK => ?_) hd_nil
                go_simp
                obtain ⟨wk6, hwa⟩ : ∃ W, W = Wz.alloc (.cells #[.int .i64 0, .int .i64 0, .int .i64 0, .int .i64 0] 96) := ⟨_, rfl⟩
                obtain ⟨gb, hgb⟩ : ∃ g, g = Wz.heap.size := ⟨_, rfl⟩
                rw [← hwa, ← hgb]
                have hba : Fresh Wz wk6 := by rw [hwa]; exact fnew (frefl _) _
                have ra : RowAt wk6 gb 96 [.int .i64 0, .int .i64 0, .int .i64 0, .int .i64 0] := by rw [hwa, hgb]; exact RowAt.new _ _ _
                have hga : wr.heap.size ≤ gb := by rw [hgb]; exact f0.size
                have fk6 := fstep f0 hba
                clear hwa hgb
                clear hba
                refine hK.out _ _ ?_ (fun hHeld => ?_)
                · exact ⟨fkeep fk6 n0, fkeep fk6 n1, fkeep fk6 hcx⟩
                clear hK K
                try simp only [PU]
                refine hd_one (i := 5) rfl (by kernel_rfl) (by kernel_rfl) (fun K hK => ?_)
                go_simp
                go_at_call 27
                refine (l1Split_any (ba x) 32 _ (by omega)).mono ?_
                rintro e wk7 ⟨v2, rfl, how2, hb7⟩
                rw [bs_ba, ← HXW.out] at how2
                obtain ⟨g2, c2, hve, _⟩ := strs_row how2 hxw0
                subst hve
                have fk7 := fstep fk6 hb7
                replace ra := ra.keep hb7
                go_wp2_with fail
                refine hK.out _ _ ?_ (fun hHeld => ?_)
                · exact ⟨fkeep fk7 n0, fkeep fk7 n1, fkeep fk7 hcx⟩
                clear hK K
                try simp only [PU]
                refine hd_one (i := 6) rfl (by kernel_rfl) (by kernel_rfl) (fun K hK => ?_)
                go_simp
                go_at_call 60
                refine (l3Fiber_any qn pV cnn F.length cV nodes g2 c2 XW _ (HSN2.out.keep fk7) hnn hxw0 (strs_cells hxw0 how2) HXS.out).mono ?_
                rintro e wk8 ⟨a, b, c, d, kk, rfl, hb8, hall⟩
                have HAL := Lib.hid hall
                clear hall
                have fk8 := fstep fk7 hb8
                replace how2 := ownsRow_keep how2 hb8
                replace ra := ra.keep hb8
                go_wp2_with fail
                refine hK.out _ _ ?_ (fun hHeld => ?_)
                · exact ⟨fkeep fk8 n0, fkeep fk8 n1, fkeep fk8 hcx⟩
                clear hK K
                try simp only [PU]
                refine hd_tk (i := 7) (v := ?_) rfl ?_ ?_
                rotate_left
                · (intro w hSw; (try dsimp only at hSw); go_simp; first | done | with_reducible rfl)
                try simp only [PU]
                refine hd_tk (i := 8) (v := ?_) rfl ?_ ?_
                rotate_left
                · (intro w hSw; (try dsimp only at hSw); go_simp; first | done | with_reducible rfl)
                try simp only [PU]
                refine hd_tk (i := 9) (v := ?_) rfl ?_ ?_
                rotate_left
                · (intro w hSw; (try dsimp only at hSw); go_simp; first | done | with_reducible rfl)
                try simp only [PU]
                have zc0 := ra.cell (i := 0) rfl
                have uc0 := ra.frozen 0
                have zc1 := ra.cell (i := 1) rfl
                have uc1 := ra.frozen 1
                have zc2 := ra.cell (i := 2) rfl
                have uc2 := ra.frozen 2
                have zc3 := ra.cell (i := 3) rfl
                have uc3 := ra.frozen 3
                have fs := fset (fset (fset (fset (fk8) hga (o := 0) (.int .i64 a)) hga (o := 1) (.int .i64 b)) hga (o := 2) (.int .i64 c)) hga (o := 3) (.int .i64 d)
                refine hd_one (i := 11) rfl (by kernel_rfl) (by kernel_rfl) (fun K hK => ?_)
                (go_simp)
                refine hK.out _ _ ?_ (fun hHeld => ?_)
                · exact ⟨fkeep fs n0, fkeep fs n1, fkeep fs hcx⟩
                clear hK K
                try simp only [PU]
                refine hd_done (by kernel_rfl) ?_
                clear hHeld
                simp only [List.drop_succ_cons, List.drop_zero]
                go_wp2_with fail
                go_meet
                have hrow := ((((ra.set 0 (.int .i64 a)).set 1 (.int .i64 b)).set 2 (.int .i64 c)).set 3 (.int .i64 d))
                case rel => exact ⟨gb, a, b, c, d, kk, rfl, rfl, hrow, HAL.out, fs, hga⟩
            case rest =>
              obtain ⟨gb, a, b, c, d, kk, rfl, rfl, hrow, HALF, hf5, hga⟩ := hcut
              have HX5 := Lib.hid hrow
              have HN4 := Lib.hid (sp_step HX.out ⟨h5, HT5.out⟩ HMK.out (by rw [← HXW.out]; exact HALF.out))
              have HF5 := Lib.hid hf5
              have HRN5 := Lib.hid (HRN2.out.keep hf5)
              have HR5 := Lib.hid (HRX.out.keep hf5)
              have HOW5 := Lib.hid (ownsRow_keep HOW.out hf5)
              have HFW5 := Lib.hid (fstep HFR.out hf5)
              have HFA5 := Lib.hid (fstep HFW.out hf5)
              clear hrow hf5 HALF hd hex n0 n1 hcx
              cases kk with
              | false =>
                have HNO : Hid (∀ R, ¬ IsPlan s R) := fun R hR => by have := (HN4.out R hR).1; cases this
                have x0 := HR5.out.cell (i := 0) rfl
                have x1 := HR5.out.cell (i := 1) rfl
                have u0 := HR5.out.frozen 0
                have u1 := HR5.out.frozen 1
                have n0 := HRN5.out.cell (i := 0) rfl
                have n1 := HRN5.out.cell (i := 1) rfl
                have hfin := (HR5.out.set 0 (.slice qn nodes.length cnn)).set 1 (.slice pV F.length cV)
                have k0 := hfin.cell (i := 0) rfl
                have k1 := hfin.cell (i := 1) rfl
                have HFF := Lib.hid (fset (fset HFA5.out hlo (o := 0) (.slice qn nodes.length cnn)) hlo (o := 1) (.slice pV F.length cV))
                clear hfin
                go_wp2
                refine bodyPost_ret (v := .tuple #[.agg #[.slice qn nodes.length cnn, .slice pV F.length cV], .int .i64 ((k : Int) + 1), .bool false]) (by simp [results, Tryz.results28, go_sem, k0, k1]) rfl ?_
                exact ⟨qn, pV, cnn, cV, ⟨nodes, F⟩, k, false, rfl, by rw [← HPE.out]; exact hk, (fun h => by cases h), HFF.out, fun R hR => (HNO.out R hR).elim⟩
              | true =>
                have n1 := HRN5.out.cell (i := 1) rfl
                have f0 := HX5.out.cell (i := 0) rfl
                have f1 := HX5.out.cell (i := 1) rfl
                have f2 := HX5.out.cell (i := 2) rfl
                have f3 := HX5.out.cell (i := 3) rfl
                go_wp2_with (at_builtin; refine wpList_app_b Tryz.underlying32 infoFib rfl (by decide) (by decide) w3 wc _ F.length (F.flatMap fibC) (fibC ⟨a, b, c, d⟩) _ rfl (one_fibC ⟨a, b, c, d⟩) rfl _ _ rfl rfl HOW5.out rfl rfl hF4 HFW5.out ?_; intro v3 w3' hown3 hf3 hk3; obtain ⟨r3, e3, hv3, _⟩ := owns_cap hown3; subst hv3; have hrn3 := hk3 _ _ _ HRN5.out (Or.inl (by decide)); have z1 := hrn3.frozen 1; have y1 := hrn3.cell (i := 1) rfl)
                go_wp2
                go_roundw
                case rel =>
                  refine ⟨k + 1, .slice r3 (F.length + 1) e3, F ++ [⟨a, b, c, d⟩], by omega, by go_num, by simp [HFL.out], hrn3.set 1 _, ?_, fun R h => ⟨(HMK.out R h).1, (HN4.out R h).2⟩, fset hf3 hloN _⟩
                  have := owns_setO (u := .slice r3 (F.length + 1) e3) hown3 hrn3 (by decide) 1
                  rw [List.length_append, List.flatMap_append]
                  simpa using this
                case measure => simp [intOf]; omega
          · have hd := lbne ht
            have hex : (ba x).extract 0 5 = ba (x.take 5) := by rw [ext_cut (by omega) (by omega), bs_ba, List.drop_zero]
            have HEX : Hid (∀ R, IsPlan s R → R.net = ⟨nodes, F⟩ ∧ R.net.fibers.length = k) := fun R hR => sp_exit hR (HMK.out R hR).1 (HMK.out R hR).2.1 (HMK.out R hR).2.2 (fun x2 h2 h3 => by rw [HX.out] at h2; cases h2; exact ht h3.2)
            clear ht
            have HNI : Hid (NetIn wr (.agg #[.slice qn nodes.length cnn, .slice pV F.length cV]) ⟨nodes, F⟩) := ⟨_, _, _, _, rfl, HSN'.out.keep HFR.out, HOV.out.cells, hnn, hF4, hc1, hc2, HNS.out⟩
            go_upto_region 10 with fail
            refine hd_start (n := 5) (S := fun wz => wz.cell? ⟨bN, 0, none⟩ = some (.slice qn nodes.length cnn) ∧ wz.cell? ⟨bN, 1, none⟩ = some (.slice pV F.length cV)) (by kernel_rfl) (by kernel_rfl) ⟨fkeep (fdrew (frefl _)) n0, fkeep (fdrew (frefl _)) n1⟩ (fun hHeld => ?_)
            obtain ⟨Wz, hWz⟩ : ∃ W, W = wr.drew := ⟨_, rfl⟩
            rw [← hWz] at hHeld ⊢
            have f0 : Fresh wr Wz := by rw [hWz]; exact fdrew (frefl _)
            clear hWz
            refine hd_tk (i := 0) (v := ?_) rfl ?_ ?_
            rotate_left
            · (intro w hSw; (try dsimp only at hSw); go_simp; first | done | with_reducible rfl)
            try simp only [PU]
            refine hd_tk (i := 1) (v := ?_) rfl ?_ ?_
            rotate_left
            · (intro w hSw; (try dsimp only at hSw); go_simp; first | done | with_reducible rfl)
            try simp only [PU]
            refine hd_tk (i := 2) (v := ?_) rfl ?_ ?_
            rotate_left
            · (intro w hSw; (try dsimp only at hSw); go_simp; first | done | with_reducible rfl)
            try simp only [PU]
            refine hd_one (i := 3) rfl (by kernel_rfl) (by kernel_rfl) (fun K hK => ?_)
            go_simp
            go_at_call 41
            refine (l2Good_any _ ⟨nodes, F⟩ _ (HNI.out.keep f0)).mono ?_
            rintro e w9 ⟨rfl, hb9⟩
            have f9 := fstep f0 hb9
            go_wp2_with fail
            refine hK.out _ _ ?_ (fun hHeld => ?_)
            · exact ⟨fkeep f9 n0, fkeep f9 n1⟩
            clear hK K
            try simp only [PU]
            have HR9 := Lib.hid (HRX.out.keep f9)
            have HN9 := Lib.hid (HRN2.out.keep f9)
            have x0 := HR9.out.cell (i := 0) rfl
            have x1 := HR9.out.cell (i := 1) rfl
            have u0 := HR9.out.frozen 0
            have u1 := HR9.out.frozen 1
            refine hd_one (i := 4) rfl (by kernel_rfl) (by kernel_rfl) (fun K hK => ?_)
            (go_simp)
            refine hK.out _ _ ?_ (fun hHeld => ?_)
            · exact ⟨((HN9.out.setOther (by omega) _).setOther (by omega) _).cell (i := 0) rfl, ((HN9.out.setOther (by omega) _).setOther (by omega) _).cell (i := 1) rfl⟩
            clear hK K
            try simp only [PU]
            refine hd_done (by kernel_rfl) ?_
            clear hHeld
            simp only [List.drop_succ_cons, List.drop_zero]
            have hfin := (HR9.out.set 0 (.slice qn nodes.length cnn)).set 1 (.slice pV F.length cV)
            have k0 := hfin.cell (i := 0) rfl
            have k1 := hfin.cell (i := 1) rfl
            have HF9 := Lib.hid (fstep HFW.out f9)
            have HF92 := Lib.hid f9
            clear hfin f9 hb9 f0
            go_wp2
            obtain ⟨ok, hok⟩ : ∃ ok, ok = netB ⟨nodes, F⟩ := ⟨_, rfl⟩
            rw [← hok]
            refine bodyPost_ret (v := .tuple #[.agg #[.slice qn nodes.length cnn, .slice pV F.length cV], .int .i64 ((k : Int) + 1), .bool ok]) (by simp [results, Tryz.results28, go_sem, k0, k1]) rfl ?_
            refine ⟨qn, pV, cnn, cV, ⟨nodes, F⟩, k, ok, rfl, by rw [← HPE.out]; exact hk, fun h => ⟨by rw [← hok]; exact h, ⟨_, _, _, _, rfl, ?_, ?_, hnn, hF4, hc1, hc2, HNS.out⟩⟩, fset (fset HF9.out hlo _) hlo _, fun R hR => ?_⟩
            · exact ((HSN'.out.keep (fstep HFR.out HF92.out)).setBlk HQG.out 0 _).setBlk HQG.out 1 _
            · exact (((HOV.out.keep HF92.out).setOther hRN _).setOther hRN _).cells
            · obtain ⟨e1, e2⟩ := HEX.out R hR
              refine ⟨?_, e1, e2.symm⟩
              rw [hok, ← e1]
              exact planX_net hR.1
        · have h5z : ¬ (5 : Int) < (x.length : Int) := by omega
          have HEX : Hid (∀ R, IsPlan s R → R.net = ⟨nodes, F⟩ ∧ R.net.fibers.length = k) := fun R hR => sp_exit hR (HMK.out R hR).1 (HMK.out R hR).2.1 (HMK.out R hR).2.2 (fun x2 h2 h3 => by rw [HX.out] at h2; cases h2; exact h5 h3.1)
          have HNI : Hid (NetIn wr (.agg #[.slice qn nodes.length cnn, .slice pV F.length cV]) ⟨nodes, F⟩) := ⟨_, _, _, _, rfl, HSN'.out.keep HFR.out, HOV.out.cells, hnn, hF4, hc1, hc2, HNS.out⟩
          go_upto_region 10 with fail
          refine hd_start (n := 5) (S := fun wz => wz.cell? ⟨bN, 0, none⟩ = some (.slice qn nodes.length cnn) ∧ wz.cell? ⟨bN, 1, none⟩ = some (.slice pV F.length cV)) (by kernel_rfl) (by kernel_rfl) ⟨fkeep (fdrew (frefl _)) n0, fkeep (fdrew (frefl _)) n1⟩ (fun hHeld => ?_)
          obtain ⟨Wz, hWz⟩ : ∃ W, W = wr.drew := ⟨_, rfl⟩
          rw [← hWz] at hHeld ⊢
          have f0 : Fresh wr Wz := by rw [hWz]; exact fdrew (frefl _)
          clear hWz
          refine hd_tk (i := 0) (v := ?_) rfl ?_ ?_
          rotate_left
          · (intro w hSw; (try dsimp only at hSw); go_simp; first | done | with_reducible rfl)
          try simp only [PU]
          refine hd_tk (i := 1) (v := ?_) rfl ?_ ?_
          rotate_left
          · (intro w hSw; (try dsimp only at hSw); go_simp; first | done | with_reducible rfl)
          try simp only [PU]
          refine hd_tk (i := 2) (v := ?_) rfl ?_ ?_
          rotate_left
          · (intro w hSw; (try dsimp only at hSw); go_simp; first | done | with_reducible rfl)
          try simp only [PU]
          refine hd_one (i := 3) rfl (by kernel_rfl) (by kernel_rfl) (fun K hK => ?_)
          go_simp
          go_at_call 41
          refine (l2Good_any _ ⟨nodes, F⟩ _ (HNI.out.keep f0)).mono ?_
          rintro e w9 ⟨rfl, hb9⟩
          have f9 := fstep f0 hb9
          go_wp2_with fail
          refine hK.out _ _ ?_ (fun hHeld => ?_)
          · exact ⟨fkeep f9 n0, fkeep f9 n1⟩
          clear hK K
          try simp only [PU]
          have HR9 := Lib.hid (HRX.out.keep f9)
          have HN9 := Lib.hid (HRN2.out.keep f9)
          have x0 := HR9.out.cell (i := 0) rfl
          have x1 := HR9.out.cell (i := 1) rfl
          have u0 := HR9.out.frozen 0
          have u1 := HR9.out.frozen 1
          refine hd_one (i := 4) rfl (by kernel_rfl) (by kernel_rfl) (fun K hK => ?_)
          (go_simp)
          refine hK.out _ _ ?_ (fun hHeld => ?_)
          · exact ⟨((HN9.out.setOther (by omega) _).setOther (by omega) _).cell (i := 0) rfl, ((HN9.out.setOther (by omega) _).setOther (by omega) _).cell (i := 1) rfl⟩
          clear hK K
          try simp only [PU]
          refine hd_done (by kernel_rfl) ?_
          clear hHeld
          simp only [List.drop_succ_cons, List.drop_zero]
          have hfin := (HR9.out.set 0 (.slice qn nodes.length cnn)).set 1 (.slice pV F.length cV)
          have k0 := hfin.cell (i := 0) rfl
          have k1 := hfin.cell (i := 1) rfl
          have HF9 := Lib.hid (fstep HFW.out f9)
          have HF92 := Lib.hid f9
          clear hfin f9 hb9 f0
          go_wp2
          obtain ⟨ok, hok⟩ : ∃ ok, ok = netB ⟨nodes, F⟩ := ⟨_, rfl⟩
          rw [← hok]
          refine bodyPost_ret (v := .tuple #[.agg #[.slice qn nodes.length cnn, .slice pV F.length cV], .int .i64 ((k : Int) + 1), .bool ok]) (by simp [results, Tryz.results28, go_sem, k0, k1]) rfl ?_
          refine ⟨qn, pV, cnn, cV, ⟨nodes, F⟩, k, ok, rfl, by rw [← HPE.out]; exact hk, fun h => ⟨by rw [← hok]; exact h, ⟨_, _, _, _, rfl, ?_, ?_, hnn, hF4, hc1, hc2, HNS.out⟩⟩, fset (fset HF9.out hlo _) hlo _, fun R hR => ?_⟩
          · exact ((HSN'.out.keep (fstep HFR.out HF92.out)).setBlk HQG.out 0 _).setBlk HQG.out 1 _
          · exact (((HOV.out.keep HF92.out).setOther hRN _).setOther hRN _).cells
          · obtain ⟨e1, e2⟩ := HEX.out R hR
            refine ⟨?_, e1, e2.symm⟩
            rw [hok, ← e1]
            exact planX_net hR.1
      · have hltz : ¬ (k : Int) + 1 < (P.length : Int) := by omega
        have HEX : Hid (∀ R, IsPlan s R → R.net = ⟨nodes, F⟩ ∧ R.net.fibers.length = k) := fun R hR => sp_exit hR (HMK.out R hR).1 (HMK.out R hR).2.1 (HMK.out R hR).2.2 (fun x2 h2 h3 => by have h4 := (List.getElem?_eq_some_iff.1 h2).1; rw [← HPE.out] at h4; omega)
        clear hf how hrn hoV hFl
        have HNI : Hid (NetIn wr (.agg #[.slice qn nodes.length cnn, .slice pV F.length cV]) ⟨nodes, F⟩) := ⟨_, _, _, _, rfl, HSN'.out.keep HFR.out, HOV.out.cells, hnn, hF4, hc1, hc2, HNS.out⟩
        go_upto_region 10 with fail
        refine hd_start (n := 5) (S := fun wz => wz.cell? ⟨bN, 0, none⟩ = some (.slice qn nodes.length cnn) ∧ wz.cell? ⟨bN, 1, none⟩ = some (.slice pV F.length cV)) (by kernel_rfl) (by kernel_rfl) ⟨fkeep (fdrew (frefl _)) n0, fkeep (fdrew (frefl _)) n1⟩ (fun hHeld => ?_)
        obtain ⟨Wz, hWz⟩ : ∃ W, W = wr.drew := ⟨_, rfl⟩
        rw [← hWz] at hHeld ⊢
        have f0 : Fresh wr Wz := by rw [hWz]; exact fdrew (frefl _)
        clear hWz
        refine hd_tk (i := 0) (v := ?_) rfl ?_ ?_
        rotate_left
        · (intro w hSw; (try dsimp only at hSw); go_simp; first | done | with_reducible rfl)
        try simp only [PU]
        refine hd_tk (i := 1) (v := ?_) rfl ?_ ?_
        rotate_left
        · (intro w hSw; (try dsimp only at hSw); go_simp; first | done | with_reducible rfl)
        try simp only [PU]
        refine hd_tk (i := 2) (v := ?_) rfl ?_ ?_
        rotate_left
        · (intro w hSw; (try dsimp only at hSw); go_simp; first | done | with_reducible rfl)
        try simp only [PU]
        refine hd_one (i := 3) rfl (by kernel_rfl) (by kernel_rfl) (fun K hK => ?_)
        go_simp
        go_at_call 41
        refine (l2Good_any _ ⟨nodes, F⟩ _ (HNI.out.keep f0)).mono ?_
        rintro e w9 ⟨rfl, hb9⟩
        have f9 := fstep f0 hb9
        go_wp2_with fail
        refine hK.out _ _ ?_ (fun hHeld => ?_)
        · exact ⟨fkeep f9 n0, fkeep f9 n1⟩
        clear hK K
        try simp only [PU]
        have HR9 := Lib.hid (HRX.out.keep f9)
        have HN9 := Lib.hid (HRN2.out.keep f9)
        have x0 := HR9.out.cell (i := 0) rfl
        have x1 := HR9.out.cell (i := 1) rfl
        have u0 := HR9.out.frozen 0
        have u1 := HR9.out.frozen 1
        refine hd_one (i := 4) rfl (by kernel_rfl) (by kernel_rfl) (fun K hK => ?_)
        (go_simp)
        refine hK.out _ _ ?_ (fun hHeld => ?_)
        · exact ⟨((HN9.out.setOther (by omega) _).setOther (by omega) _).cell (i := 0) rfl, ((HN9.out.setOther (by omega) _).setOther (by omega) _).cell (i := 1) rfl⟩
        clear hK K
        try simp only [PU]
        refine hd_done (by kernel_rfl) ?_
        clear hHeld
        simp only [List.drop_succ_cons, List.drop_zero]
        have hfin := (HR9.out.set 0 (.slice qn nodes.length cnn)).set 1 (.slice pV F.length cV)
        have k0 := hfin.cell (i := 0) rfl
        have k1 := hfin.cell (i := 1) rfl
        have HF9 := Lib.hid (fstep HFW.out f9)
        have HF92 := Lib.hid f9
        clear hfin f9 hb9 f0
        go_wp2
        obtain ⟨ok, hok⟩ : ∃ ok, ok = netB ⟨nodes, F⟩ := ⟨_, rfl⟩
        rw [← hok]
        refine bodyPost_ret (v := .tuple #[.agg #[.slice qn nodes.length cnn, .slice pV F.length cV], .int .i64 ((k : Int) + 1), .bool ok]) (by simp [results, Tryz.results28, go_sem, k0, k1]) rfl ?_
        refine ⟨qn, pV, cnn, cV, ⟨nodes, F⟩, k, ok, rfl, by rw [← HPE.out]; exact hk, fun h => ⟨by rw [← hok]; exact h, ⟨_, _, _, _, rfl, ?_, ?_, hnn, hF4, hc1, hc2, HNS.out⟩⟩, fset (fset HF9.out hlo _) hlo _, fun R hR => ?_⟩
        · exact ((HSN'.out.keep (fstep HFR.out HF92.out)).setBlk HQG.out 0 _).setBlk HQG.out 1 _
        · exact (((HOV.out.keep HF92.out).setOther hRN _).setOther hRN _).cells
        · obtain ⟨e1, e2⟩ := HEX.out R hR
          refine ⟨?_, e1, e2.symm⟩
          rw [hok, ← e1]
          exact planX_net hR.1
end Go.Proofs.YtjhaoonacjebpaaGreatDoor
