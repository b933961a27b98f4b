/- Contracts: a plan's text is read, the reference's side. (Printed by gen_qs4.py.) -/
import Derived.Test.YtjhaoonacjebpaaGreatDoorQs2
import Derived.Test.YtjhaoonacjebpaaGreatDoorQs3
namespace Go.Proofs.YtjhaoonacjebpaaGreatDoor
open Go.RowKit Go.PlainAid

theorem Cells.setRow {w : World} {p : Option Addr} {cs : List Value} (h : Cells w p cs) {b : Nat} {t : TypeId} {xs : List Value} (hr : RowAt w b t xs) (hd : ∀ v ∈ cs, v ∉ xs) (o : Nat) (y : Value) : Cells (w.setCell ⟨b, o, none⟩ y) p cs := by
  rcases h with h | ⟨g, off, hp, hc⟩
  · exact Or.inl h
  · by_cases hg : g = b
    · subst hg
      cases cs with
      | nil => exact cells_nil _ _
      | cons v vs =>
        exfalso
        have h0 := hc 0 v rfl
        unfold World.cell? at h0
        unfold RowAt at hr
        rw [hr] at h0
        have h1 : xs[off + 0]? = some v := by simpa using h0
        exact hd v (by simp) (List.mem_of_getElem? h1)
    · exact Cells.setBlk (Or.inr ⟨g, off, hp, hc⟩) (fun g' o' e => by rw [hp] at e; cases e; exact hg) o y
theorem NetIn.setP {w : World} {v : Value} {n : Net} (h : NetIn w v n) {b : Nat} {t : TypeId} {xs : List Value} (hr : RowAt w b t xs) (hx : ∀ x ∈ xs, ∃ q m c, x = Value.slice q m c) (o : Nat) (y : Value) : NetIn (w.setCell ⟨b, o, none⟩ y) v n := by
  obtain ⟨q, c, p, d, h1, h2, h3, h4⟩ := h
  refine ⟨q, c, p, d, h1, Cells.setRow h2 hr (fun u hu hm => ?_) o y, Cells.setRow h3 hr (fun u hu hm => ?_) o y, h4⟩
  · obtain ⟨a, m, e, he⟩ := hx u hm
    obtain ⟨s, _, hs⟩ := List.mem_map.1 hu
    rw [he] at hs; cases hs
  · obtain ⟨a, m, e, he⟩ := hx u hm
    obtain ⟨f, _, hf⟩ := List.mem_flatMap.1 hu
    rw [he] at hf
    simp [fibC] at hf
theorem three_slices {a b c : Option Addr} {m1 m2 m3 c1 c2 c3 : Nat} : ∀ x ∈ [Value.slice a m1 c1, Value.slice b m2 c2, Value.slice c m3 c3], ∃ q m c, x = Value.slice q m c := by
  intro x hx
  simp at hx
  rcases hx with rfl | rfl | rfl <;> exact ⟨_, _, _, rfl⟩
/-- The plan of a text, and whether there is one. -/
def OutSp (s : ByteArray) (w : World) (e : Ending) (w' : World) : Prop := ∃ v' r0 r1, e = .returned (.tuple #[v', .bool r1]) ∧ ParSaid s r0 r1 ∧ PlIn w' v' r0 ∧ Fresh w w'
theorem sp_all {s : List UInt8} {Q : PlanV} {M : Net} {k j : Nat} {l : List LL} (hQ : IsPlan s Q) (h1 : Q.net = M) (h2 : k = Q.net.fibers.length) (h3 : l.map LL.val = Q.lights.take j) (h4 : (splitC 10 s).length ≤ k + 1 + j + 1) : Q = ⟨M, l.map LL.val⟩ := by
  have h5 := sp_len hQ
  rw [List.take_of_length_le (by omega)] at h3
  obtain ⟨Qn, Ql⟩ := Q
  simp only at h1 h3
  rw [h1, h3]
set_option maxHeartbeats 16000000 in
set_option maxRecDepth 100000 in
theorem specParsePlan_any (s : ByteArray) (w : World) (hs : s.size ≤ 1048576) : Calls Tryz.prog 10 #[.string s] w (OutSp s w) := by
  obtain ⟨bR, hbR⟩ : ∃ b, b = w.heap.size := ⟨_, rfl⟩
  obtain ⟨W1, hW1⟩ : ∃ W, W = w.alloc (.cells #[.slice none 0 0, .slice none 0 0, .slice none 0 0] 37) := ⟨_, rfl⟩
  have hf1 : Fresh w W1 := by rw [hW1]; exact fnew (frefl _) _
  have HR : Hid (RowAt W1 bR 37 [.slice none 0 0, .slice none 0 0, .slice none 0 0]) := by show RowAt _ _ _ _; rw [hW1, hbR]; exact RowAt.new _ _ _
  have hlo : w.heap.size ≤ bR := by omega
  have HF := Lib.hid hf1
  have HW1 := Lib.hid hW1
  have HBR := Lib.hid hbR
  clear hW1 hf1 hbR
  by_cases h4k : 4000 < s.size
  · have hz : (4000 : Int) < (s.size : Int) := by omega
    have HNO : Hid (∀ Q, ¬ IsPlan (bs s) Q) := fun Q hQ => by have := hQ.2.2; rw [bs_len] at this; omega
    go_enter Tryz.func10, Tryz.ntmps10
    go_upto_region 1 with fail
    rw [← HW1.out, ← HBR.out]
    have x0 := HR.out.cell (i := 0) rfl
    have u0 := HR.out.frozen 0
    have x1 := HR.out.cell (i := 1) rfl
    have u1 := HR.out.frozen 1
    have x2 := HR.out.cell (i := 2) rfl
    have u2 := HR.out.frozen 2
    have hfin := (((HR.out.set 0 (.slice none 0 0)).set 1 (.slice none 0 0)).set 2 (.slice none 0 0))
    have k0 := hfin.cell (i := 0) rfl
    have k1 := hfin.cell (i := 1) rfl
    have k2 := hfin.cell (i := 2) rfl
    have HFF := Lib.hid (fset (fset (fset HF.out hlo (o := 0) (.slice none 0 0)) hlo (o := 1) (.slice none 0 0)) hlo (o := 2) (.slice none 0 0))
    clear hfin
    go_wp2
    refine bodyPost_ret (v := .tuple #[.agg #[.slice none 0 0, .slice none 0 0, .slice none 0 0], .bool false]) (by simp [results, Tryz.results10, go_sem, k0, k1, k2]) rfl ?_
    exact ⟨_, zP, false, rfl, Or.inr ⟨rfl, rfl, HNO.out⟩, (zP_own _ 0).plIn zP_small.1, HFF.out⟩
  · have hz : ¬ (4000 : Int) < (s.size : Int) := by omega
    have HSP := Lib.hid (l1Split_any s 10 W1 (by omega))
    have hs4 : (bs s).length ≤ 4000 := by rw [bs_len]; omega
    go_enter Tryz.func10, Tryz.ntmps10
    go_upto_region 1 with fail
    rw [← HW1.out, ← HBR.out]
    go_wp2_with fail
    refine (HSP.out).mono ?_
    clear HSP
    rintro e w2 ⟨v2, rfl, ho2, hf2⟩
    obtain ⟨Ls, hL⟩ : ∃ P, P = splitC 10 (bs s) := ⟨_, rfl⟩
    rw [← hL] at ho2
    have hl0 : 0 < Ls.length := by rw [hL]; exact Nat.pos_of_ne_zero fun h => splitC_ne 10 _ (List.eq_nil_of_length_eq_zero h)
    have hl1 : Ls.length ≤ 4001 := by rw [hL]; have h1 := (splitC_small 10 (bs s)).1; omega
    have HLS : Hid (∀ x ∈ Ls, x.length ≤ 4000) := fun x hx => by rw [hL] at hx; have := (splitC_small 10 (bs s)).2 x hx; omega
    obtain ⟨gl, cl, rfl, hcell⟩ := strs_row ho2 hl0
    have HLN := Lib.hid (l3Lines_any (bs s) hs4 gl cl Ls hL w2 hcell)
    have HCE := Lib.hid hcell
    have HLE := Lib.hid hL
    replace HF := Lib.hid (fstep HF.out hf2)
    replace HR := Lib.hid (HR.out.keep hf2)
    clear hf2 ho2 hcell hL h4k HW1
    go_wp2_with fail
    refine (HLN.out).mono ?_
    clear HLN
    rintro e w3 ⟨q, p, c, d, M, k, ok, rfl, hk, hok, hf3, hpl⟩
    rw [← HLE.out] at hk
    obtain ⟨b5, hb5⟩ : ∃ b, b = w3.heap.size := ⟨_, rfl⟩
    obtain ⟨W5, hW5⟩ : ∃ W, W = w3.alloc (.cells #[.slice q M.nodes.length c, .slice p M.fibers.length d] 34) := ⟨_, rfl⟩
    have hf5 : Fresh w3 W5 := by rw [hW5]; exact fnew (frefl _) _
    have H5 : Hid (RowAt W5 b5 34 [.slice q M.nodes.length c, .slice p M.fibers.length d]) := by show RowAt _ _ _ _; rw [hW5, hb5]; exact RowAt.new _ _ _
    obtain ⟨bP, hbP⟩ : ∃ b, b = W5.heap.size := ⟨_, rfl⟩
    have hloP : W5.heap.size ≤ bP := by omega
    obtain ⟨W7, hW7⟩ : ∃ W, W = W5.alloc (.cells #[.slice q M.nodes.length c, .slice p M.fibers.length d, .slice none 0 0] 37) := ⟨_, rfl⟩
    have hf7 : Fresh W5 W7 := by rw [hW7]; exact fnew (frefl _) _
    have HRP : Hid (RowAt W7 bP 37 [.slice q M.nodes.length c, .slice p M.fibers.length d, .slice none 0 0]) := by show RowAt _ _ _ _; rw [hW7, hbP]; exact RowAt.new _ _ _
    replace HF := Lib.hid (fstep HF.out (fstep hf3 hf5))
    replace HR := Lib.hid (HR.out.keep (fstep hf3 hf5))
    have HCE5 := Lib.hid (fun k x hx => fkeep (fstep hf3 hf5) (HCE.out k x hx))
    have HFB := Lib.hid hf7
    have HOK : Hid (ok = true → netB M = true ∧ NetIn W5 (.agg #[.slice q M.nodes.length c, .slice p M.fibers.length d]) M) := fun h => ⟨(hok h).1, (hok h).2.keep hf5⟩
    have HPL := Lib.hid hpl
    have HW5 := Lib.hid hW5
    have HB5 := Lib.hid hb5
    have HW7 := Lib.hid hW7
    have HBP := Lib.hid hbP
    have n0 := H5.out.cell (i := 0) rfl
    have n1 := H5.out.cell (i := 1) rfl
    have hR5 : bR < W5.heap.size := HR.out.lt
    clear hf3 hf5 hf7 hok hpl hW5 hb5 hW7 hbP HCE
    go_upto_region 5 with fail
    rw [← HW5.out, ← HB5.out]
    cases ok with
    | false =>
      have HNO : Hid (∀ Q, ¬ IsPlan (bs s) Q) := fun Q hQ => by have := (HPL.out Q hQ).1; cases this
      go_wp2
      rw [← HW7.out, ← HBP.out]
      go_loopw [6] (fun i wr => i = .int .i64 ((k : Int) + 1) ∧ Fresh W5 wr) (fun _ _ => 0)
      case atStart => exact ⟨rfl, HFB.out⟩
      case round =>
        obtain ⟨rfl, hf⟩ := hrel
        have HR9 := Lib.hid (HR.out.keep hf)
        have HF9 := Lib.hid (fstep HF.out hf)
        clear hf n0 n1
        have x0 := HR9.out.cell (i := 0) rfl
        have u0 := HR9.out.frozen 0
        have x1 := HR9.out.cell (i := 1) rfl
        have u1 := HR9.out.frozen 1
        have x2 := HR9.out.cell (i := 2) rfl
        have u2 := HR9.out.frozen 2
        have hfin := (((HR9.out.set 0 (.slice none 0 0)).set 1 (.slice none 0 0)).set 2 (.slice none 0 0))
        have k0 := hfin.cell (i := 0) rfl
        have k1 := hfin.cell (i := 1) rfl
        have k2 := hfin.cell (i := 2) rfl
        have HFF := Lib.hid (fset (fset (fset HF9.out hlo (o := 0) (.slice none 0 0)) hlo (o := 1) (.slice none 0 0)) hlo (o := 2) (.slice none 0 0))
        clear hfin
        go_wp2
        refine bodyPost_ret (v := .tuple #[.agg #[.slice none 0 0, .slice none 0 0, .slice none 0 0], .bool false]) (by simp [results, Tryz.results10, go_sem, k0, k1, k2]) rfl ?_
        exact ⟨_, zP, false, rfl, Or.inr ⟨rfl, rfl, HNO.out⟩, (zP_own _ 0).plIn zP_small.1, HFF.out⟩
    | true =>
      obtain ⟨hnb, hni⟩ := HOK.out rfl
      have HNB := Lib.hid hnb
      have HNI := Lib.hid hni
      have hsm := netB_small hnb
      have HM0 : Hid (∀ R, IsPlan (bs s) R → ([] : List LL).map LL.val = R.lights.take 0) := fun R _ => by simp
      clear hnb hni HOK
      go_wp2
      rw [← HW7.out, ← HBP.out]
      go_loopw [6] (fun i wr => ∃ (j : Nat) (V : Value) (l : List LL), k + 1 + j ≤ Ls.length ∧ i = .int .i64 ((k : Int) + 1 + (j : Int)) ∧ l.length = j ∧ RowAt wr bP 37 [.slice q M.nodes.length c, .slice p M.fibers.length d, V] ∧ wr.ownsRow W5.heap.size 58 5 V l.length (l.flatMap llC) ∧ (∀ x ∈ l, Own wr W5.heap.size 3 x.r.q (x.r.fibs.map iv)) ∧ (∀ x ∈ l, x.r.fibs.length ≤ 1048576) ∧ Hid (∀ R, IsPlan (bs s) R → l.map LL.val = R.lights.take j) ∧ Fresh W5 wr) (fun i _ => Ls.length + 1 - (intOf i).toNat)
      case atStart => exact ⟨0, .slice none 0 0, [], by omega, by simp, rfl, HRP.out, World.ownsRow_nil _ _ _ _, (fun x hx => by cases hx), (fun x hx => by cases hx), HM0.out, HFB.out⟩
      case round =>
        clear HRP HFB HM0 HW7 HBP HW5 HB5 n0 n1
        obtain ⟨j, V, l, hj, rfl, hll, hrp, how, hio, hls, HLV, hf⟩ := hrel
        obtain ⟨pV, cV, rfl, hoV, hcV1, hcV2⟩ := owns_cap how
        have HFB := Lib.hid hf
        have HFW := Lib.hid (fstep HF.out hf)
        have HRP := Lib.hid hrp
        have HOW := Lib.hid how
        have HLL := Lib.hid hll
        have HIO := Lib.hid hio
        have HLSS := Lib.hid hls
        have HOV := Lib.hid hoV
        have HNW := Lib.hid (HNI.out.keep hf)
        have HRX := Lib.hid (HR.out.keep hf)
        have hl4 : l.length ≤ 1048576 := by omega
        have hw2 : IntKind.i64.wrap ((Ls.length : Int) - 1) = (Ls.length : Int) - 1 := by rw [IntKind.wrap_i64]; omega
        by_cases hlt : k + 1 + j + 1 < Ls.length
        · have hltz : (k : Int) + 1 + (j : Int) < (Ls.length : Int) - 1 := by omega
          have hw1 : IntKind.i64.wrap ((k : Int) + 1 + (j : Int) + 1) = (k : Int) + 1 + (j : Int) + 1 := by rw [IntKind.wrap_i64]; omega
          have hi0 : 0 ≤ (k : Int) + 1 + (j : Int) := by omega
          have hi1 : ((k : Int) + 1 + (j : Int)).toNat = k + 1 + j := by omega
          have hi2 : (k : Int) + 1 + (j : Int) < (Ls.length : Int) := by omega
          obtain ⟨x, hx⟩ : ∃ x, Ls[k + 1 + j]? = some x := ⟨Ls[k + 1 + j], List.getElem?_eq_getElem (by omega)⟩
          have hcx := fkeep hf (HCE5.out (k + 1 + j) x hx)
          have hxs : x.length ≤ 4000 := HLS.out x (List.mem_of_getElem? hx)
          have hbx : (ba x).size = x.length := ba_size x
          have HSL : Hid (∀ R, IsPlan (bs s) R → R.net = M ∧ ∃ X, R.lights[j]? = some X ∧ ltB M X = true ∧ 6 ≤ x.length ∧ x.take 6 = [108, 105, 103, 104, 116, 32] ∧ lightR M X = x.drop 6) := fun R hR => by
            obtain ⟨_, e1, e2⟩ := HPL.out R hR
            refine ⟨e1, ?_⟩
            have h1 := sp_light hR (k := j) (x := x) (by rw [← HLE.out, ← e2, Nat.add_comm 1 k]; exact hx) (by rw [← HLE.out, ← e2]; omega)
            rw [e1] at h1
            exact h1
          have n0 := (H5.out.keep hf).cell (i := 0) rfl
          have n1 := (H5.out.keep hf).cell (i := 1) rfl
          clear hf how hrp hoV hll hio hls hx
          by_cases h6 : 6 ≤ x.length
          · have h6z : ¬ (x.length : Int) < 6 := by omega
            have h6s : 6 ≤ (ba x).size := by omega
            have hex : (ba x).extract 0 6 = ba (x.take 6) := by rw [ext_cut (by omega) (by omega), bs_ba, List.drop_zero]
            by_cases ht : x.take 6 = [108, 105, 103, 104, 116, 32]
            · have hd := lbeq ht
              clear ht
              have HRD : Hid (∀ W, Fresh wr W → Calls Tryz.prog 29 #[.agg #[.slice q M.nodes.length c, .slice p M.fibers.length d], .string ((ba x).extract 6 x.length)] W (OutRl M (fun X => lightR M X = x.drop 6) W)) := fun W hW => by
                have h1 := l3ReadLight_any _ M (ba (x.drop 6)) W (HNW.out.keep hW) HNB.out (by rw [ba_size, List.length_drop]; omega)
                rw [bs_ba] at h1
                have h2 := ext_end h6s
                rw [bs_ba, hbx] at h2
                rw [h2]
                exact h1
              have h6i : (6 : Int) ≤ (x.length : Int) := by omega
              go_upto_region 10 with fail
              go_cut [9, 10] (fun z9 z10 wx => ∃ (gb : Nat) (xid xs : Int) (xq : Option Addr) (xc : Nat) (xl : List Int) (xf xcn : Int) (kk : Bool), z9 = .pointer (some ⟨gb, 0, none⟩) ∧ z10 = .bool kk ∧ RowAt wx gb 58 [.int .i64 xid, .int .i64 xs, .slice xq xl.length xc, .int .i64 xf, .int .i64 xcn] ∧ Own wx wr.heap.size 3 xq (xl.map iv) ∧ xl.length ≤ 1048576 ∧ Hid (∀ X : LtV, ltB M X = true → lightR M X = x.drop 6 → kk = true ∧ LL.val ⟨xid, ⟨xs, xq, xc, xl⟩, xf, xcn⟩ = X) ∧ Fresh wr wx ∧ wr.heap.size ≤ gb)
              case first =>
                refine hd_start (n := 12) (S := fun wz => wz.cell? ⟨b5, 0, none⟩ = some (.slice q M.nodes.length c) ∧ wz.cell? ⟨b5, 1, none⟩ = some (.slice p M.fibers.length d) ∧ wz.cell? ⟨gl, k + 1 + j, none⟩ = some (.string (ba x))) (by kernel_rfl) (by kernel_rfl) ⟨fkeep (fdrew (frefl _)) n0, fkeep (fdrew (frefl _)) n1, fkeep (fdrew (frefl _)) hcx⟩ (fun hHeld => ?_)
                obtain ⟨Wz, hWz⟩ : ∃ W, W = wr.drew := ⟨_, rfl⟩
                rw [← hWz] at hHeld ⊢
                have f0 : Fresh wr Wz := by rw [hWz]; exact fdrew (frefl _)
                clear hWz
                refine hd_tk (i := 0) (v := ?_) rfl ?_ ?_
                rotate_left
                · (intro w hSw; (try dsimp only at hSw); go_simp; first | done | with_reducible rfl)
                try simp only [PU]
                refine hd_tk (i := 1) (v := ?_) rfl ?_ ?_
                rotate_left
                · (intro w hSw; (try dsimp only at hSw); go_simp; first | done | with_reducible rfl)
                try simp only [PU]
                refine hd_tk (i := 2) (v := ?_) rfl ?_ ?_
                rotate_left
                · (intro w hSw; (try dsimp only at hSw); go_simp; first | done | with_reducible rfl)
                try simp only [PU]
                refine hd_tk (i := 3) (v := ?_) rfl ?_ ?_
                rotate_left
                · (intro w hSw; (try dsimp only at hSw); go_simp; first | done | with_reducible rfl)
                try simp only [PU]
                refine hd_tk (i := 4) (v := ?_) rfl ?_ ?_
                rotate_left
                · (intro w hSw; (try dsimp only at hSw); go_simp; first | done | with_reducible rfl)
                try simp only [PU]
                refine hd_tk (i := 5) (v := ?_) rfl ?_ ?_
                rotate_left
                · (intro w hSw; (try dsimp only at hSw); go_simp; first | done | with_reducible rfl)
                try simp only [PU]
                refine hd_ready (rs := [6, 10]) (by kernel_rfl) (by simp) ?_
                refine hd_cons (i := 6) rfl (by kernel_rfl) (fun K hK => ?_) ?_
                · skip
                  go_simp
                  go_at_call 29
                  refine (HRD.out _ f0).mono ?_
                  rintro e wk1 ⟨⟨xid, ⟨xs, xq, xc, xl⟩, xf, xcn⟩, kk, rfl, hox, hxl, hb1, hall⟩
                  have HAL := Lib.hid hall
                  simp only at hox hxl
                  replace hox := hox.mono f0.size
                  clear hall
                  have fk1 := fstep f0 hb1
                  go_wp2_with fail
                  refine hK.out _ _ ?_ (fun hHeld => ?_)
                  · exact ⟨fkeep fk1 n0, fkeep fk1 n1, fkeep fk1 hcx⟩
                  clear hK K
                  try simp only [PU]
                  refine hd_tk (i := 7) (v := ?_) rfl ?_ ?_
                  rotate_left
                  · (intro w hSw; (try dsimp only at hSw); go_simp; first | done | with_reducible rfl)
                  try simp only [PU]
                  refine hd_tk (i := 8) (v := ?_) rfl ?_ ?_
                  rotate_left
                  · (intro w hSw; (try dsimp only at hSw); go_simp; first | done | with_reducible rfl)
                  try simp only [PU]
                  refine hd_tk (i := 9) (v := ?_) rfl ?_ ?_
                  rotate_left
                  · (intro w hSw; (try dsimp only at hSw); go_simp; first | done | with_reducible rfl)
                  try simp only [PU]
                  refine hd_one (i := 10) rfl (by kernel_rfl) (by kernel_rfl) (fun K hK => ?_)
                  go_simp
                  obtain ⟨wk2, hwa⟩ : ∃ W, W = wk1.alloc (.cells #[.int .i64 0, .int .i64 0, .slice none 0 0, .int .i64 0, .int .i64 0] 58) := ⟨_, rfl⟩
                  obtain ⟨gb, hgb⟩ : ∃ g, g = wk1.heap.size := ⟨_, rfl⟩
                  rw [← hwa, ← hgb]
                  have hba : Fresh wk1 wk2 := by rw [hwa]; exact fnew (frefl _) _
                  have ra : RowAt wk2 gb 58 [.int .i64 0, .int .i64 0, .slice none 0 0, .int .i64 0, .int .i64 0] := by rw [hwa, hgb]; exact RowAt.new _ _ _
                  have hga : wr.heap.size ≤ gb := by rw [hgb]; exact fk1.size
                  have fk2 := fstep fk1 hba
                  clear hwa hgb
                  replace hox := hox.keep hba
                  clear hba
                  refine hK.out _ _ ?_ (fun hHeld => ?_)
                  · exact ⟨fkeep fk2 n0, fkeep fk2 n1, fkeep fk2 hcx⟩
                  clear hK K
                  try simp only [PU]
                  have zc0 := ra.cell (i := 0) rfl
                  have uc0 := ra.frozen 0
                  have zc1 := ra.cell (i := 1) rfl
                  have uc1 := ra.frozen 1
                  have zc2 := ra.cell (i := 2) rfl
                  have uc2 := ra.frozen 2
                  have zc3 := ra.cell (i := 3) rfl
                  have uc3 := ra.frozen 3
                  have zc4 := ra.cell (i := 4) rfl
                  have uc4 := ra.frozen 4
                  have fs := fset (fset (fset (fset (fset (fk2) hga (o := 0) (.int .i64 xid)) hga (o := 1) (.int .i64 xs)) hga (o := 2) (.slice xq xl.length xc)) hga (o := 3) (.int .i64 xf)) hga (o := 4) (.int .i64 xcn)
                  refine hd_one (i := 11) rfl (by kernel_rfl) (by kernel_rfl) (fun K hK => ?_)
                  (go_simp)
                  refine hK.out _ _ ?_ (fun hHeld => ?_)
                  · exact ⟨fkeep fs n0, fkeep fs n1, fkeep fs hcx⟩
                  clear hK K
                  try simp only [PU]
                  refine hd_done (by kernel_rfl) ?_
                  clear hHeld
                  simp only [List.drop_succ_cons, List.drop_zero]
                  go_wp2_with fail
                  go_meet
                  have hrow := (((((ra.set 0 (.int .i64 xid)).set 1 (.int .i64 xs)).set 2 (.slice xq xl.length xc)).set 3 (.int .i64 xf)).set 4 (.int .i64 xcn))
                  case rel => exact ⟨gb, xid, xs, xq, xc, xl, xf, xcn, kk, rfl, rfl, hrow, (((((hox.setO ra (by decide) 0 _).setO (ra.set 0 _) (by decide) 1 _).setO ((ra.set 0 _).set 1 _) (by decide) 2 _).setO (((ra.set 0 _).set 1 _).set 2 _) (by decide) 3 _).setO ((((ra.set 0 _).set 1 _).set 2 _).set 3 _) (by decide) 4 _), hxl, HAL.out, fs, hga⟩
                · refine hd_cons (i := 10) rfl (by kernel_rfl) (fun K hK => ?_) hd_nil
                  go_simp
                  obtain ⟨wk3, hwa⟩ : ∃ W, W = Wz.alloc (.cells #[.int .i64 0, .int .i64 0, .slice none 0 0, .int .i64 0, .int .i64 0] 58) := ⟨_, rfl⟩
                  obtain ⟨gb, hgb⟩ : ∃ g, g = Wz.heap.size := ⟨_, rfl⟩
                  rw [← hwa, ← hgb]
                  have hba : Fresh Wz wk3 := by rw [hwa]; exact fnew (frefl _) _
                  have ra : RowAt wk3 gb 58 [.int .i64 0, .int .i64 0, .slice none 0 0, .int .i64 0, .int .i64 0] := by rw [hwa, hgb]; exact RowAt.new _ _ _
                  have hga : wr.heap.size ≤ gb := by rw [hgb]; exact f0.size
                  have fk3 := fstep f0 hba
                  clear hwa hgb
                  clear hba
                  refine hK.out _ _ ?_ (fun hHeld => ?_)
                  · exact ⟨fkeep fk3 n0, fkeep fk3 n1, fkeep fk3 hcx⟩
                  clear hK K
                  try simp only [PU]
                  refine hd_one (i := 6) rfl (by kernel_rfl) (by kernel_rfl) (fun K hK => ?_)
                  go_simp
                  go_at_call 29
                  refine (HRD.out _ fk3).mono ?_
                  rintro e wk4 ⟨⟨xid, ⟨xs, xq, xc, xl⟩, xf, xcn⟩, kk, rfl, hox, hxl, hb4, hall⟩
                  have HAL := Lib.hid hall
                  simp only at hox hxl
                  replace hox := hox.mono fk3.size
                  clear hall
                  have fk4 := fstep fk3 hb4
                  replace ra := ra.keep hb4
                  go_wp2_with fail
                  refine hK.out _ _ ?_ (fun hHeld => ?_)
                  · exact ⟨fkeep fk4 n0, fkeep fk4 n1, fkeep fk4 hcx⟩
                  clear hK K
                  try simp only [PU]
                  refine hd_tk (i := 7) (v := ?_) rfl ?_ ?_
                  rotate_left
                  · (intro w hSw; (try dsimp only at hSw); go_simp; first | done | with_reducible rfl)
                  try simp only [PU]
                  refine hd_tk (i := 8) (v := ?_) rfl ?_ ?_
                  rotate_left
                  · (intro w hSw; (try dsimp only at hSw); go_simp; first | done | with_reducible rfl)
                  try simp only [PU]
                  refine hd_tk (i := 9) (v := ?_) rfl ?_ ?_
                  rotate_left
                  · (intro w hSw; (try dsimp only at hSw); go_simp; first | done | with_reducible rfl)
                  try simp only [PU]
                  have zc0 := ra.cell (i := 0) rfl
                  have uc0 := ra.frozen 0
                  have zc1 := ra.cell (i := 1) rfl
                  have uc1 := ra.frozen 1
                  have zc2 := ra.cell (i := 2) rfl
                  have uc2 := ra.frozen 2
                  have zc3 := ra.cell (i := 3) rfl
                  have uc3 := ra.frozen 3
                  have zc4 := ra.cell (i := 4) rfl
                  have uc4 := ra.frozen 4
                  have fs := fset (fset (fset (fset (fset (fk4) hga (o := 0) (.int .i64 xid)) hga (o := 1) (.int .i64 xs)) hga (o := 2) (.slice xq xl.length xc)) hga (o := 3) (.int .i64 xf)) hga (o := 4) (.int .i64 xcn)
                  refine hd_one (i := 11) rfl (by kernel_rfl) (by kernel_rfl) (fun K hK => ?_)
                  (go_simp)
                  refine hK.out _ _ ?_ (fun hHeld => ?_)
                  · exact ⟨fkeep fs n0, fkeep fs n1, fkeep fs hcx⟩
                  clear hK K
                  try simp only [PU]
                  refine hd_done (by kernel_rfl) ?_
                  clear hHeld
                  simp only [List.drop_succ_cons, List.drop_zero]
                  go_wp2_with fail
                  go_meet
                  have hrow := (((((ra.set 0 (.int .i64 xid)).set 1 (.int .i64 xs)).set 2 (.slice xq xl.length xc)).set 3 (.int .i64 xf)).set 4 (.int .i64 xcn))
                  case rel => exact ⟨gb, xid, xs, xq, xc, xl, xf, xcn, kk, rfl, rfl, hrow, (((((hox.setO ra (by decide) 0 _).setO (ra.set 0 _) (by decide) 1 _).setO ((ra.set 0 _).set 1 _) (by decide) 2 _).setO (((ra.set 0 _).set 1 _).set 2 _) (by decide) 3 _).setO ((((ra.set 0 _).set 1 _).set 2 _).set 3 _) (by decide) 4 _), hxl, HAL.out, fs, hga⟩
              case rest =>
                obtain ⟨gb, xid, xs, xq, xc, xl, xf, xcn, kk, rfl, rfl, hrow, hox, hxl, HAL0, hf9, hga⟩ := hcut
                have HX5 := Lib.hid hrow
                have HOX := Lib.hid hox
                have HF5 := Lib.hid hf9
                have HAL : Hid (∀ R, IsPlan (bs s) R → kk = true ∧ (l ++ [(⟨xid, ⟨xs, xq, xc, xl⟩, xf, xcn⟩ : LL)]).map LL.val = R.lights.take (j + 1)) := fun R hR => by
                  obtain ⟨_, X, e1, e2, _, _, e3⟩ := HSL.out R hR
                  obtain ⟨e4, e5⟩ := HAL0.out X e2 e3
                  refine ⟨e4, ?_⟩
                  rw [List.map_append, HLV.out R hR]
                  show _ ++ [LL.val _] = _
                  rw [e5]; exact take_snoc e1
                have HRP5 := Lib.hid (HRP.out.keep hf9)
                have HR5 := Lib.hid (HRX.out.keep hf9)
                have HOW5 := Lib.hid (ownsRow_keep HOW.out hf9)
                have HFB5 := Lib.hid (fstep HFB.out hf9)
                have hszr := HFB.out.size
                clear hrow hox hf9 HAL0 n0 n1 hcx hd hex HRD
                cases kk with
                | false =>
                  have HNO : Hid (∀ R, ¬ IsPlan (bs s) R) := fun R hR => by have := (HAL.out R hR).1; cases this
                  have x0 := HR5.out.cell (i := 0) rfl
                  have u0 := HR5.out.frozen 0
                  have x1 := HR5.out.cell (i := 1) rfl
                  have u1 := HR5.out.frozen 1
                  have x2 := HR5.out.cell (i := 2) rfl
                  have u2 := HR5.out.frozen 2
                  have hfin := (((HR5.out.set 0 (.slice none 0 0)).set 1 (.slice none 0 0)).set 2 (.slice none 0 0))
                  have k0 := hfin.cell (i := 0) rfl
                  have k1 := hfin.cell (i := 1) rfl
                  have k2 := hfin.cell (i := 2) rfl
                  have HFF := Lib.hid (fset (fset (fset (fstep HF.out HFB5.out) hlo (o := 0) (.slice none 0 0)) hlo (o := 1) (.slice none 0 0)) hlo (o := 2) (.slice none 0 0))
                  clear hfin
                  go_wp2
                  refine bodyPost_ret (v := .tuple #[.agg #[.slice none 0 0, .slice none 0 0, .slice none 0 0], .bool false]) (by simp [results, Tryz.results10, go_sem, k0, k1, k2]) rfl ?_
                  exact ⟨_, zP, false, rfl, Or.inr ⟨rfl, rfl, HNO.out⟩, (zP_own _ 0).plIn zP_small.1, HFF.out⟩
                | true =>
                  have n2 := HRP5.out.cell (i := 2) rfl
                  have f0 := HX5.out.cell (i := 0) rfl
                  have f1 := HX5.out.cell (i := 1) rfl
                  have f2 := HX5.out.cell (i := 2) rfl
                  have f3 := HX5.out.cell (i := 3) rfl
                  have f4 := HX5.out.cell (i := 4) rfl
                  go_wp2_with (at_builtin; refine wpList_app_b Tryz.underlying35 infoLt rfl (by decide) (by decide) W5 wc _ l.length (l.flatMap llC) [iv xid, iv xs, .slice xq xl.length xc, iv xf, iv xcn] _ rfl (one_lt ⟨xid, ⟨xs, xq, xc, xl⟩, xf, xcn⟩) rfl _ _ rfl rfl HOW5.out rfl rfl hl4 HFB5.out ?_; intro v3 w3' hown3 hf3 hk3; obtain ⟨r3, e3, hv3, _⟩ := owns_cap hown3; subst hv3; have hrn3 := hk3 _ _ _ HRP5.out (Or.inl (by decide)); have z2 := hrn3.frozen 2; have y2 := hrn3.cell (i := 2) rfl)
                  have HO3 := Lib.hid hown3
                  have HF3 := Lib.hid hf3
                  have HK3 := Lib.hid hk3
                  have HN3 := Lib.hid hrn3
                  clear hown3 hf3 hk3 hrn3 f0 f1 f2 f3 f4 n2
                  go_wp2
                  go_roundw
                  case rel =>
                    have hS : ∀ {pp : Option Addr} {cs : List Value}, Own wc W5.heap.size 3 pp cs → Own (w3'.setCell ⟨bP, 2, none⟩ (.slice r3 (l.length + 1) e3)) W5.heap.size 3 pp cs := by
                      intro pp cs h1
                      have h2 : Own w3' W5.heap.size 3 pp cs := by
                        rcases h1 with h1 | ⟨g, sp, a1, a2, a3⟩
                        · exact Or.inl h1
                        · exact Or.inr ⟨g, sp, a1, a2, HK3.out _ _ _ a3 (Or.inl (by decide))⟩
                      exact h2.setO HN3.out (by decide) _ _
                    refine ⟨j + 1, .slice r3 (l.length + 1) e3, l ++ [⟨xid, ⟨xs, xq, xc, xl⟩, xf, xcn⟩], by omega, by go_num, by simp [HLL.out], HN3.out.set 2 _, ?_, ?_, ?_, fun R hR => (HAL.out R hR).2, fset HF3.out hloP _⟩
                    · have := owns_setO (u := .slice r3 (l.length + 1) e3) HO3.out HN3.out (by decide) 2
                      rw [List.length_append, List.flatMap_append]
                      simpa using this
                    · intro y hy
                      rcases List.mem_append.1 hy with hy | hy
                      · exact hS ((HIO.out y hy).keep HF5.out)
                      · rw [List.mem_singleton.1 hy]; exact hS (HOX.out.mono hszr)
                    · intro y hy
                      rcases List.mem_append.1 hy with hy | hy
                      · exact HLSS.out y hy
                      · rw [List.mem_singleton.1 hy]; exact hxl
                  case measure => simp [intOf]; omega
            · have hd := lbne ht
              have HNO : Hid (∀ R, ¬ IsPlan (bs s) R) := fun R hR => by obtain ⟨_, X, _, _, _, e3, _⟩ := HSL.out R hR; exact ht e3
              clear ht
              have x0 := HRX.out.cell (i := 0) rfl
              have u0 := HRX.out.frozen 0
              have x1 := HRX.out.cell (i := 1) rfl
              have u1 := HRX.out.frozen 1
              have x2 := HRX.out.cell (i := 2) rfl
              have u2 := HRX.out.frozen 2
              have hfin := (((HRX.out.set 0 (.slice none 0 0)).set 1 (.slice none 0 0)).set 2 (.slice none 0 0))
              have k0 := hfin.cell (i := 0) rfl
              have k1 := hfin.cell (i := 1) rfl
              have k2 := hfin.cell (i := 2) rfl
              have HFF := Lib.hid (fset (fset (fset HFW.out hlo (o := 0) (.slice none 0 0)) hlo (o := 1) (.slice none 0 0)) hlo (o := 2) (.slice none 0 0))
              clear hfin n0 n1
              go_wp2
              refine bodyPost_ret (v := .tuple #[.agg #[.slice none 0 0, .slice none 0 0, .slice none 0 0], .bool false]) (by simp [results, Tryz.results10, go_sem, k0, k1, k2]) rfl ?_
              exact ⟨_, zP, false, rfl, Or.inr ⟨rfl, rfl, HNO.out⟩, (zP_own _ 0).plIn zP_small.1, HFF.out⟩
          · have h6z : (x.length : Int) < 6 := by omega
            have HNO : Hid (∀ R, ¬ IsPlan (bs s) R) := fun R hR => by obtain ⟨_, X, _, _, e3, _, _⟩ := HSL.out R hR; exact h6 e3
            have x0 := HRX.out.cell (i := 0) rfl
            have u0 := HRX.out.frozen 0
            have x1 := HRX.out.cell (i := 1) rfl
            have u1 := HRX.out.frozen 1
            have x2 := HRX.out.cell (i := 2) rfl
            have u2 := HRX.out.frozen 2
            have hfin := (((HRX.out.set 0 (.slice none 0 0)).set 1 (.slice none 0 0)).set 2 (.slice none 0 0))
            have k0 := hfin.cell (i := 0) rfl
            have k1 := hfin.cell (i := 1) rfl
            have k2 := hfin.cell (i := 2) rfl
            have HFF := Lib.hid (fset (fset (fset HFW.out hlo (o := 0) (.slice none 0 0)) hlo (o := 1) (.slice none 0 0)) hlo (o := 2) (.slice none 0 0))
            clear hfin n0 n1
            go_wp2
            refine bodyPost_ret (v := .tuple #[.agg #[.slice none 0 0, .slice none 0 0, .slice none 0 0], .bool false]) (by simp [results, Tryz.results10, go_sem, k0, k1, k2]) rfl ?_
            exact ⟨_, zP, false, rfl, Or.inr ⟨rfl, rfl, HNO.out⟩, (zP_own _ 0).plIn zP_small.1, HFF.out⟩
        · have hltz : ¬ (k : Int) + 1 + (j : Int) < (Ls.length : Int) - 1 := by omega
          have HALL : Hid (∀ Q, IsPlan (bs s) Q → Q = (⟨M, l.map LL.val⟩ : PlanV)) := fun Q hQ => by
            obtain ⟨_, e1, e2⟩ := HPL.out Q hQ
            exact sp_all hQ e1 e2 (HLV.out Q hQ) (by rw [← HLE.out]; omega)
          have HPI : Hid (PlIn wr (.agg #[.slice q M.nodes.length c, .slice p M.fibers.length d, .slice pV l.length cV]) (⟨M, l.map LL.val⟩ : PlanV)) := ⟨q, _, c, p, _, d, pV, cV, l, rfl, HNW.out, ⟨HOV.out.cells, fun x hx => (HIO.out x hx).ints⟩, ⟨hl4, HLSS.out⟩, rfl, hcV1, hcV2⟩
          have HGD := Lib.hid (l9Good_any _ _ wr HPI.out)
          have p0 := hrp.cell (i := 0) rfl
          have p1 := hrp.cell (i := 1) rfl
          have p2 := hrp.cell (i := 2) rfl
          clear hf how hrp hoV hll hio hls
          cases hb : planB (⟨M, l.map LL.val⟩ : PlanV) with
          | false =>
            rw [hb] at HGD
            have HNO : Hid (∀ Q, ¬ IsPlan (bs s) Q) := fun Q hQ => by
              have h2 := hQ.1
              rw [HALL.out Q hQ, hb] at h2
              cases h2
            clear hb
            go_wp2_with fail
            refine (HGD.out).mono ?_
            clear HGD
            rintro e wf ⟨rfl, hff⟩
            have HRF := Lib.hid (HRX.out.keep hff)
            have HFF0 := Lib.hid (fstep HFW.out hff)
            clear hff p0 p1 p2
            have x0 := HRF.out.cell (i := 0) rfl
            have u0 := HRF.out.frozen 0
            have x1 := HRF.out.cell (i := 1) rfl
            have u1 := HRF.out.frozen 1
            have x2 := HRF.out.cell (i := 2) rfl
            have u2 := HRF.out.frozen 2
            have hfin := (((HRF.out.set 0 (.slice none 0 0)).set 1 (.slice none 0 0)).set 2 (.slice none 0 0))
            have k0 := hfin.cell (i := 0) rfl
            have k1 := hfin.cell (i := 1) rfl
            have k2 := hfin.cell (i := 2) rfl
            have HFF := Lib.hid (fset (fset (fset HFF0.out hlo (o := 0) (.slice none 0 0)) hlo (o := 1) (.slice none 0 0)) hlo (o := 2) (.slice none 0 0))
            clear hfin
            go_wp2
            refine bodyPost_ret (v := .tuple #[.agg #[.slice none 0 0, .slice none 0 0, .slice none 0 0], .bool false]) (by simp [results, Tryz.results10, go_sem, k0, k1, k2]) rfl ?_
            exact ⟨_, zP, false, rfl, Or.inr ⟨rfl, rfl, HNO.out⟩, (zP_own _ 0).plIn zP_small.1, HFF.out⟩
          | true =>
            rw [hb] at HGD
            have HTX := Lib.hid (fun W (hW : Fresh wr W) => l3Plan_any _ (⟨M, l.map LL.val⟩ : PlanV) W (HPI.out.keep hW) hb)
            have HB := Lib.hid hb
            clear hb
            obtain ⟨t, ht⟩ : ∃ t, t = ba (planX (⟨M, l.map LL.val⟩ : PlanV)) := ⟨_, rfl⟩
            rw [← ht] at HTX
            by_cases he : t = s
            · have hd := streq he
              have HIP : Hid (IsPlan (bs s) (⟨M, l.map LL.val⟩ : PlanV)) := ⟨HB.out, by rw [← he, ht, bs_ba], hs4⟩
              clear he ht
              go_wp2_with fail
              refine (HGD.out).mono ?_
              clear HGD
              rintro e wf ⟨rfl, hff⟩
              have HFa := Lib.hid hff
              replace p0 := fkeep hff p0
              replace p1 := fkeep hff p1
              replace p2 := fkeep hff p2
              clear hff
              go_wp2_with fail
              refine (HTX.out _ HFa.out).mono ?_
              clear HTX
              rintro e wg ⟨rfl, hfg⟩
              have HFb := Lib.hid (fstep HFa.out hfg)
              replace p0 := fkeep hfg p0
              replace p1 := fkeep hfg p1
              replace p2 := fkeep hfg p2
              have HRF := Lib.hid (HRX.out.keep HFb.out)
              clear hfg
              have x0 := HRF.out.cell (i := 0) rfl
              have u0 := HRF.out.frozen 0
              have x1 := HRF.out.cell (i := 1) rfl
              have u1 := HRF.out.frozen 1
              have x2 := HRF.out.cell (i := 2) rfl
              have u2 := HRF.out.frozen 2
              have hfin := (((HRF.out.set 0 (.slice q M.nodes.length c)).set 1 (.slice p M.fibers.length d)).set 2 (.slice pV l.length cV))
              have k0 := hfin.cell (i := 0) rfl
              have k1 := hfin.cell (i := 1) rfl
              have k2 := hfin.cell (i := 2) rfl
              have HFF := Lib.hid (fset (fset (fset (fstep HFW.out HFb.out) hlo (o := 0) (.slice q M.nodes.length c)) hlo (o := 1) (.slice p M.fibers.length d)) hlo (o := 2) (.slice pV l.length cV))
              clear hfin
              go_wp2
              refine bodyPost_ret (v := .tuple #[.agg #[.slice q M.nodes.length c, .slice p M.fibers.length d, .slice pV l.length cV], .bool true]) (by simp [results, Tryz.results10, go_sem, k0, k1, k2]) rfl ?_
              have hS : ∀ {t : TypeId} {pp : Option Addr} {xs : List Value}, Own wg W5.heap.size t pp xs → Own (((wg.setCell ⟨bR, 0, none⟩ (.slice q M.nodes.length c)).setCell ⟨bR, 1, none⟩ (.slice p M.fibers.length d)).setCell ⟨bR, 2, none⟩ (.slice pV l.length cV)) W5.heap.size t pp xs := fun h => ((h.setOther hR5 _).setOther hR5 _).setOther hR5 _
              exact ⟨_, (⟨M, l.map LL.val⟩ : PlanV), true, rfl, Or.inl ⟨rfl, HIP.out, HALL.out⟩, ⟨q, _, c, p, _, d, pV, cV, l, rfl, (((HNW.out.keep HFb.out).setP HRF.out three_slices 0 _).setP (HRF.out.set 0 _) three_slices 1 _).setP ((HRF.out.set 0 _).set 1 _) three_slices 2 _, ⟨(hS (HOV.out.keep HFb.out)).cells, fun x hx => (hS ((HIO.out x hx).keep HFb.out)).ints⟩, ⟨hl4, HLSS.out⟩, rfl, hcV1, hcV2⟩, HFF.out⟩
            · have hd := strne he
              have HNO : Hid (∀ Q, ¬ IsPlan (bs s) Q) := fun Q hQ => by
                have h2 := hQ.2.1
                rw [HALL.out Q hQ] at h2
                exact he (by rw [ht, h2, ba_bs])
              clear he ht
              go_wp2_with fail
              refine (HGD.out).mono ?_
              clear HGD
              rintro e wf ⟨rfl, hff⟩
              have HFa := Lib.hid hff
              replace p0 := fkeep hff p0
              replace p1 := fkeep hff p1
              replace p2 := fkeep hff p2
              clear hff
              go_wp2_with fail
              refine (HTX.out _ HFa.out).mono ?_
              clear HTX
              rintro e wg ⟨rfl, hfg⟩
              have HFb := Lib.hid (fstep HFa.out hfg)
              have HRF := Lib.hid (HRX.out.keep HFb.out)
              have HFF0 := Lib.hid (fstep HFW.out HFb.out)
              clear hfg p0 p1 p2
              have x0 := HRF.out.cell (i := 0) rfl
              have u0 := HRF.out.frozen 0
              have x1 := HRF.out.cell (i := 1) rfl
              have u1 := HRF.out.frozen 1
              have x2 := HRF.out.cell (i := 2) rfl
              have u2 := HRF.out.frozen 2
              have hfin := (((HRF.out.set 0 (.slice none 0 0)).set 1 (.slice none 0 0)).set 2 (.slice none 0 0))
              have k0 := hfin.cell (i := 0) rfl
              have k1 := hfin.cell (i := 1) rfl
              have k2 := hfin.cell (i := 2) rfl
              have HFF := Lib.hid (fset (fset (fset HFF0.out hlo (o := 0) (.slice none 0 0)) hlo (o := 1) (.slice none 0 0)) hlo (o := 2) (.slice none 0 0))
              clear hfin
              go_wp2
              refine bodyPost_ret (v := .tuple #[.agg #[.slice none 0 0, .slice none 0 0, .slice none 0 0], .bool false]) (by simp [results, Tryz.results10, go_sem, k0, k1, k2]) rfl ?_
              exact ⟨_, zP, false, rfl, Or.inr ⟨rfl, rfl, HNO.out⟩, (zP_own _ 0).plIn zP_small.1, HFF.out⟩
end Go.Proofs.YtjhaoonacjebpaaGreatDoor
