/- Contracts: a block read from a text, both sides. -/
import Derived.Test.YtjhaoonacjebpaaGreatDoorBx
namespace Go.Proofs.YtjhaoonacjebpaaGreatDoor
open Go.RowKit Go.PlainAid

/-- A variable of the library holds a number. -/
def MaxE (w : World) : Prop := ∃ m, w.cell? ⟨0, 0, none⟩ = some (.int .i64 m)
theorem MaxE.keep {w w' : World} (h : MaxE w) (hb : Fresh w w') : MaxE w' := by obtain ⟨m, hm⟩ := h; exact ⟨m, fkeep hb hm⟩
/-- The block of a text is handed back, and whether there is one. -/
def OutPb (s : ByteArray) (w : World) (e : Ending) (w' : World) : Prop := e = .returned (.tuple #[.agg #[.int .i64 ((pblkF goodB (bs s)).getD (0, 0)).1, .int .i64 ((pblkF goodB (bs s)).getD (0, 0)).2], .bool (pblkF goodB (bs s)).isSome]) ∧ Fresh w w'
theorem OutPb.yes {s : ByteArray} {a b : Int} {w w' : World} (h : pblkF goodB (bs s) = some (a, b)) (hf : Fresh w w') : OutPb s w (.returned (.tuple #[.agg #[.int .i64 a, .int .i64 b], .bool true])) w' := by unfold OutPb; rw [h]; exact ⟨rfl, hf⟩
theorem OutPb.no {s : ByteArray} {w w' : World} (h : pblkF goodB (bs s) = none) (hf : Fresh w w') : OutPb s w (.returned (.tuple #[.agg #[.int .i64 0, .int .i64 0], .bool false])) w' := by unfold OutPb; rw [h]; exact ⟨rfl, hf⟩
theorem cut_len (s sep : List UInt8) : (Lib.cut s sep).1.length ≤ s.length ∧ (Lib.cut s sep).2.1.length ≤ s.length := by
  unfold Lib.cut
  split
  · simp; omega
  · simp
set_option maxHeartbeats 2000000 in
set_option maxRecDepth 20000 in
theorem implParseBlock_any (s : ByteArray) (w : World) (hs : s.size ≤ 1048576) (hT : TabE w) (hS : SynE w) (hM : MaxE w) : Calls Tryz.prog 71 #[.string s] w (OutPb s w) := by
  obtain ⟨W1, hW1⟩ : ∃ W, W = w.alloc (.cells #[.int .i64 0, .int .i64 0] 56) := ⟨_, rfl⟩
  have hf1 : Fresh w W1 := by rw [hW1]; exact fnew (frefl _) _
  have HZ1 : Hid (RowAt W1 w.heap.size 56 [.int .i64 0, .int .i64 0]) := by rw [hW1]; exact RowAt.new _ _ _
  obtain ⟨m, hm⟩ := hM.keep hf1
  obtain ⟨x, hx⟩ : ∃ x, x = ba (Lib.cut (bs s) [43]).1 := ⟨_, rfl⟩
  obtain ⟨y, hy⟩ : ∃ y, y = ba (Lib.cut (bs s) [43]).2.1 := ⟨_, rfl⟩
  obtain ⟨z, hz⟩ : ∃ z, z = (Lib.cut (bs s) [43]).2.2 := ⟨_, rfl⟩
  have HCUT : Hid (Calls Tryz.prog 30 #[.string s, .string ⟨#[43]⟩] W1 fun e w' => e = .returned (.tuple #[.string x, .string y, .bool z]) ∧ ∃ n, w' = W1.drewN n) := by
    rw [hx, hy, hz]; exact Tryz.strings_Cut s ⟨#[43]⟩ m W1 (by omega) hm
  have HP : Hid (pblkF goodB (bs s) = match numF (bs x), numF (bs y) with | some a, some b => if goodB a b = true ∧ blkT a b = bs s then some (a, b) else none | _, _ => none) := by
    show _ = _; rw [hx, hy, bs_ba, bs_ba]; rfl
  have HF1 := Lib.hid hf1
  have HW1 := Lib.hid hW1
  have HT := Lib.hid (hT.keep hf1)
  have HS := Lib.hid (hS.keep hf1)
  clear hx hy hz hm hM hT hS hf1 hW1
  go_enter Tryz.func71, Tryz.ntmps71
  go_wp2_with fail
  rw [← HW1.out]
  refine (HCUT.out).mono ?_
  rintro e w2 ⟨rfl, nd, hw2⟩
  have hf2 : Fresh W1 w2 := by rw [hw2]; exact fdrewN (frefl _) _
  have HF2 := Lib.hid hf2
  clear hw2
  go_wp2_with fail
  refine (parseInt_any x _ (HT.out.keep HF2.out) (HS.out.keep HF2.out)).mono ?_
  rintro e w3 ⟨rfl, hf3⟩
  have HF3 := Lib.hid (fstep HF2.out hf3)
  clear hf2 hf3
  go_wp2_with fail
  refine (parseInt_any y _ (HT.out.keep HF3.out) (HS.out.keep HF3.out)).mono ?_
  rintro e w4 ⟨rfl, hf4⟩
  have HF4 := Lib.hid (fstep HF3.out hf4)
  have HZ4 := Lib.hid (HZ1.out.keep HF4.out)
  clear hf4
  obtain ⟨na, hna⟩ : ∃ na, na = numF (bs x) := ⟨_, rfl⟩
  obtain ⟨nb, hnb⟩ : ∃ nb, nb = numF (bs y) := ⟨_, rfl⟩
  rw [← hna, ← hnb] at HP
  rw [← hna, ← hnb]
  have HNA := Lib.hid hna
  have HNB := Lib.hid hnb
  clear hna hnb
  obtain ⟨q5, hq5⟩ : ∃ q, q = w4.heap.size := ⟨_, rfl⟩
  obtain ⟨a, ha⟩ : ∃ a, a = na.getD 0 := ⟨_, rfl⟩
  obtain ⟨b, hb⟩ : ∃ b, b = nb.getD 0 := ⟨_, rfl⟩
  obtain ⟨W5, hW5⟩ : ∃ W, W = w4.alloc (.cells #[.int .i64 a, .int .i64 b] 56) := ⟨_, rfl⟩
  have hf5 : Fresh w4 W5 := by rw [hW5]; exact fnew (frefl _) _
  have HF5 := Lib.hid (fstep HF4.out hf5)
  have HZ5 := Lib.hid (HZ4.out.keep hf5)
  have HB5 : Hid (RowAt W5 q5 56 [.int .i64 a, .int .i64 b]) := by rw [hW5, hq5]; exact RowAt.new _ _ _
  go_upto_region 5 with fail
  rw [← ha, ← hb, ← hq5, ← hW5]
  have HA := Lib.hid ha
  have HB := Lib.hid hb
  have HQ5 := Lib.hid hq5
  obtain ⟨ok, hok⟩ : ∃ ok, ok = (pblkF goodB (bs s)).isSome := ⟨_, rfl⟩
  have HOK := Lib.hid hok
  have HTA := Lib.hid (HT.out.keep HF5.out)
  have e0 := HB5.out.cell (i := 0) rfl
  have e1 := HB5.out.cell (i := 1) rfl
  clear ha hb hq5 hW5 hok HW1 HCUT hf5
  go_cut [47] (fun s47 wx => s47 = .bool (!ok) ∧ Fresh W5 wx ∧ Hid (ok = true → pblkF goodB (bs s) = some (a, b)))
  case first =>
    cases na with
    | none =>
      have HN : Hid (ok = false) := by show _ = _; rw [HOK.out, HP.out]; rfl
      go_wp2
      go_meet
      case rel => exact ⟨by rw [HN.out]; rfl, frefl _, fun h => by rw [HN.out] at h; cases h⟩
    | some a' =>
      obtain rfl : a = a' := HA.out
      cases nb with
      | none =>
        have HN : Hid (ok = false) := by show _ = _; rw [HOK.out, HP.out]; rfl
        go_wp2
        go_meet
        case rel => exact ⟨by rw [HN.out]; rfl, frefl _, fun h => by rw [HN.out] at h; cases h⟩
      | some b' =>
        obtain rfl : b = b' := HB.out
        have HP2 : Hid (pblkF goodB (bs s) = if goodB a b = true ∧ blkT a b = bs s then some (a, b) else none) := HP.out
        cases hg : goodB a b with
        | false =>
          have HN : Hid (ok = false) := by show _ = _; rw [HOK.out, HP2.out, if_neg (by simp [hg])]; rfl
          have HG := Lib.hid (implIsValidBlock_any a b W5)
          go_wp2_with (go_at_call 98; refine (HG.out).mono ?_; rintro e w6 ⟨rfl, hf6⟩)
          go_meet
          case rel => exact ⟨by rw [HN.out]; rfl, hf6, fun h => by rw [HN.out] at h; cases h⟩
        | true =>
          have HG := Lib.hid (implIsValidBlock_any a b W5)
          obtain ⟨t, ht⟩ : ∃ t, t = ba (blkT a b) := ⟨_, rfl⟩
          have HS9 := Lib.hid (good9 hg)
          have HBT : Hid (∀ W, TabE W → Calls Tryz.prog 24 #[.agg #[.int .i64 a, .int .i64 b]] W fun e w' => e = .returned (.string t) ∧ Fresh W w') := fun W hW => by rw [ht]; exact blockText_any a b W hW HS9.out
          by_cases he : t = s
          · have hd := streq he
            have HY : Hid (pblkF goodB (bs s) = some (a, b)) := by show _ = _; rw [HP2.out, if_pos ⟨hg, by rw [← he, ht, bs_ba]⟩]
            have HN : Hid (ok = true) := by show _ = _; rw [HOK.out, HY.out]; rfl
            clear he ht
            go_wp2_with fail
            refine (HG.out).mono ?_
            rintro e w6 ⟨rfl, hf6⟩
            have f0 := fkeep hf6 e0
            have f1 := fkeep hf6 e1
            go_wp2_with fail
            refine (HBT.out _ (HTA.out.keep hf6)).mono ?_
            rintro e w7 ⟨rfl, hf7⟩
            go_wp2_with fail
            go_meet
            case rel => exact ⟨by rw [HN.out]; rfl, fstep hf6 hf7, fun _ => HY.out⟩
          · have hd := strne he
            have HN : Hid (ok = false) := by show _ = _; rw [HOK.out, HP2.out, if_neg (fun h => he (by rw [ht, h.2, ba_bs]))]; rfl
            clear he ht
            go_wp2_with fail
            refine (HG.out).mono ?_
            rintro e w6 ⟨rfl, hf6⟩
            have f0 := fkeep hf6 e0
            have f1 := fkeep hf6 e1
            go_wp2_with fail
            refine (HBT.out _ (HTA.out.keep hf6)).mono ?_
            rintro e w7 ⟨rfl, hf7⟩
            go_wp2_with fail
            go_meet
            case rel => exact ⟨by rw [HN.out]; rfl, fstep hf6 hf7, fun h => by rw [HN.out] at h; cases h⟩
  case rest =>
    obtain ⟨rfl, hf6, HY⟩ := hcut
    have z0 := (HZ5.out.keep hf6).cell (i := 0) rfl
    have z1 := (HZ5.out.keep hf6).cell (i := 1) rfl
    have y0 := (HZ5.out.keep hf6).frozen 0
    have y1 := (HZ5.out.keep hf6).frozen 1
    have v0 := (HB5.out.keep hf6).cell (i := 0) rfl
    have v1 := (HB5.out.keep hf6).cell (i := 1) rfl
    have HFF := Lib.hid (fstep HF5.out hf6)
    have HFW := Lib.hid HF1
    cases ok with
    | true =>
      have HZN := Lib.hid (((HZ5.out.keep hf6).set 0 (.int .i64 a)).set 1 (.int .i64 b))
      have k0 := HZN.out.cell (i := 0) rfl
      have k1 := HZN.out.cell (i := 1) rfl
      go_wp2
      refine bodyPost_ret (v := .tuple #[.agg #[.int .i64 a, .int .i64 b], .bool true]) (by simp [results, Tryz.results71, go_sem, k0, k1]) rfl ?_
      exact OutPb.yes (HY.out (by first | rfl | trivial)) (fset (fset (fstep HF1.out HFF.out) (Nat.le_refl _) _) (Nat.le_refl _) _)
    | false =>
      have HN : Hid (pblkF goodB (bs s) = none) := by
        show _ = _
        have := HOK.out
        cases h : pblkF goodB (bs s) with
        | none => rfl
        | some z => rw [h] at this; cases this
      have HZN := Lib.hid (((HZ5.out.keep hf6).set 0 (.int .i64 0)).set 1 (.int .i64 0))
      have k0 := HZN.out.cell (i := 0) rfl
      have k1 := HZN.out.cell (i := 1) rfl
      go_wp2
      refine bodyPost_ret (v := .tuple #[.agg #[.int .i64 0, .int .i64 0], .bool false]) (by simp [results, Tryz.results71, go_sem, k0, k1]) rfl ?_
      exact OutPb.no HN.out (fset (fset (fstep HF1.out HFF.out) (Nat.le_refl _) _) (Nat.le_refl _) _)
theorem owns_slice {w : World} {base : Nat} {t : TypeId} {v : Value} {n : Nat} {xs : List Value} {size : Nat} (h : w.ownsRow base t size v n xs) : ∃ p cap, v = .slice p n cap ∧ n ≤ cap := by
  obtain ⟨_, ⟨rfl, rfl⟩ | ⟨g, cap, cur, rfl, _, _, h3, _⟩⟩ := h
  · exact ⟨_, _, rfl, Nat.le_refl _⟩
  · exact ⟨_, _, rfl, h3⟩
/-- A part of a row of texts. -/
theorem strs_cell {w : World} {base : Nat} {v : Value} {P : List (List UInt8)} (h : w.ownsRow base 9 1 v P.length (strs P)) {k : Nat} {x : List UInt8} (hk : P[k]? = some x) :
    ∃ g c, v = .slice (some ⟨g, 0, none⟩) P.length c ∧ P.length ≤ c ∧ w.cell? ⟨g, k, none⟩ = some (.string (ba x)) := by
  have hlt := (List.getElem?_eq_some_iff.1 hk).1
  obtain ⟨h1, h2 | ⟨g, cap, cur, hv, hb, hh, hnc, hcm, hcs, htk⟩⟩ := h
  · omega
  · refine ⟨g, cap, hv, hnc, ?_⟩
    have hr : RowAt w g 9 cur.toList := by unfold RowAt; exact hh
    refine hr.cell ?_
    have : (cur.toList.take (P.length * 1))[k]? = some (.string (ba x)) := by rw [htk]; simp [strs, hk]
    rw [List.getElem?_take_of_lt (by omega)] at this
    exact this
theorem part_len (c : UInt8) : ∀ (n : Nat) (s : List UInt8), s.length ≤ n → ∀ x ∈ splitC c s, x.length ≤ n
  | n, s, h => by
    induction s generalizing n with
    | nil => intro x hx; simp [splitC] at hx; subst hx; simp
    | cons b r ih =>
      intro x hx
      have hr : r.length ≤ n - 1 ∧ 1 ≤ n := by simp at h; omega
      unfold splitC at hx
      split at hx
      · rcases List.mem_cons.1 hx with rfl | hx
        · simp
        · have := ih (n - 1) hr.1 x hx; omega
      · split at hx
        · next hd tl e =>
          rcases List.mem_cons.1 hx with rfl | hx
          · have := ih (n - 1) hr.1 hd (by rw [e]; simp); simp; omega
          · have := ih (n - 1) hr.1 x (by rw [e]; exact List.mem_cons_of_mem _ hx); omega
        · next e => exact absurd e (splitC_ne c r)
set_option maxHeartbeats 2000000 in
set_option maxRecDepth 20000 in
theorem l3ReadBlock_any (s : ByteArray) (w : World) (hs : s.size ≤ 1048576) : Calls Tryz.prog 63 #[.string s] w (OutPb s w) := by
  obtain ⟨W1, hW1⟩ : ∃ W, W = w.alloc (.cells #[.int .i64 0, .int .i64 0] 56) := ⟨_, rfl⟩
  have hf1 : Fresh w W1 := by rw [hW1]; exact fnew (frefl _) _
  have HZ1 : Hid (RowAt W1 w.heap.size 56 [.int .i64 0, .int .i64 0]) := by rw [hW1]; exact RowAt.new _ _ _
  have HF1 := Lib.hid hf1
  have HW1 := Lib.hid hW1
  have HSP := Lib.hid (l1Split_any s 43 W1 hs)
  clear hf1 hW1
  go_enter Tryz.func63, Tryz.ntmps63
  go_wp2_with fail
  rw [← HW1.out]
  refine (HSP.out).mono ?_
  rintro e w2 ⟨v, rfl, hown, hf2⟩
  obtain ⟨P, hP⟩ : ∃ P, P = splitC 43 (bs s) := ⟨_, rfl⟩
  rw [← hP] at hown
  have HP := Lib.hid hP
  obtain ⟨q, cq, hv, hlc⟩ := owns_slice hown
  subst hv
  have HF2 := Lib.hid hf2
  have HZ2 := Lib.hid (HZ1.out.keep hf2)
  have HOW := Lib.hid hown
  clear hP hown hf2 HSP
  by_cases h2 : P.length = 2
  · obtain ⟨x, y, rfl⟩ : ∃ x y, P = [x, y] := by
      match P, h2 with
      | [x, y], _ => exact ⟨x, y, rfl⟩
    obtain ⟨g, c, hv, _, c0⟩ := strs_cell HOW.out (k := 0) (x := x) rfl
    obtain ⟨g', c', hv', _, c1⟩ := strs_cell HOW.out (k := 1) (x := y) rfl
    cases hv
    cases hv'
    have HL := Lib.hid (part_len 43 s.size (bs s) (by rw [bs_len]; exact Nat.le_refl _))
    have HLX : Hid ((ba x).size ≤ 1048576) := by show _ ≤ _; rw [ba_size]; have := HL.out x (by rw [← HP.out]; simp); omega
    have HLY : Hid ((ba y).size ≤ 1048576) := by show _ ≤ _; rw [ba_size]; have := HL.out y (by rw [← HP.out]; simp); omega
    go_wp2_with fail
    refine (l1Read_any (ba x) _ HLX.out).mono ?_
    rintro e w3 ⟨rfl, hf3⟩
    have d1 := fkeep hf3 c1
    have HF3 := Lib.hid (fstep HF2.out hf3)
    clear c0 c1 hf3
    go_wp2_with fail
    refine (l1Read_any (ba y) _ HLY.out).mono ?_
    rintro e w4 ⟨rfl, hf4⟩
    have HF4 := Lib.hid (fstep HF3.out hf4)
    have HZ4 := Lib.hid (HZ1.out.keep HF4.out)
    clear hf4 d1
    obtain ⟨na, hna⟩ : ∃ na, na = numF (bs (ba x)) := ⟨_, rfl⟩
    obtain ⟨nb, hnb⟩ : ∃ nb, nb = numF (bs (ba y)) := ⟨_, rfl⟩
    rw [← hna, ← hnb]
    have HNA : Hid (na = numF x) := by rw [hna, bs_ba x]; rfl
    have HNB : Hid (nb = numF y) := by rw [hnb, bs_ba y]; rfl
    clear hna hnb
    obtain ⟨q5, hq5⟩ : ∃ q, q = w4.heap.size := ⟨_, rfl⟩
    obtain ⟨a, ha⟩ : ∃ a, a = na.getD 0 := ⟨_, rfl⟩
    obtain ⟨b, hb⟩ : ∃ b, b = nb.getD 0 := ⟨_, rfl⟩
    obtain ⟨W5, hW5⟩ : ∃ W, W = w4.alloc (.cells #[.int .i64 a, .int .i64 b] 56) := ⟨_, rfl⟩
    have hf5 : Fresh w4 W5 := by rw [hW5]; exact fnew (frefl _) _
    have HF5 := Lib.hid (fstep HF4.out hf5)
    have HZ5 := Lib.hid (HZ4.out.keep hf5)
    have HB5 : Hid (RowAt W5 q5 56 [.int .i64 a, .int .i64 b]) := by rw [hW5, hq5]; exact RowAt.new _ _ _
    go_upto_region 7 with fail
    rw [← ha, ← hb, ← hq5, ← hW5]
    have HA := Lib.hid ha
    have HB := Lib.hid hb
    obtain ⟨ok, hok⟩ : ∃ ok, ok = (pblkF goodB (bs s)).isSome := ⟨_, rfl⟩
    have HOK := Lib.hid hok
    have e0 := HB5.out.cell (i := 0) rfl
    have e1 := HB5.out.cell (i := 1) rfl
    clear ha hb hq5 hW5 hok HW1 hf5
    go_cut [43] (fun s43 wx => s43 = .bool (!ok) ∧ Fresh W5 wx ∧ Hid (ok = true → pblkF goodB (bs s) = some (a, b)))
    case first =>
      cases na with
      | none =>
        have HN : Hid (ok = false) := by show _ = _; rw [HOK.out, pblk_bad goodS (fun x' y' h => by rw [← HP.out] at h; cases h; exact Or.inl HNA.out.symm)]; rfl
        go_wp2
        go_meet
        case rel => exact ⟨by rw [HN.out]; rfl, frefl _, fun h => by rw [HN.out] at h; cases h⟩
      | some a' =>
        obtain rfl : a = a' := HA.out
        cases nb with
        | none =>
          have HN : Hid (ok = false) := by show _ = _; rw [HOK.out, pblk_bad goodS (fun x' y' h => by rw [← HP.out] at h; cases h; exact Or.inr HNB.out.symm)]; rfl
          go_wp2
          go_meet
          case rel => exact ⟨by rw [HN.out]; rfl, frefl _, fun h => by rw [HN.out] at h; cases h⟩
        | some b' =>
          obtain rfl : b = b' := HB.out
          have HP2 : Hid (pblkF goodB (bs s) = if goodB a b = true then some (a, b) else none) := pblk_two goodS HP.out.symm HNA.out.symm HNB.out.symm
          cases hg : goodB a b with
          | false =>
            have HN : Hid (ok = false) := by show _ = _; rw [HOK.out, HP2.out, if_neg (by simp [hg])]; rfl
            have HG := Lib.hid (l8Good_any a b W5)
            go_wp2_with (go_at_call 85; refine (HG.out).mono ?_; rintro e w6 ⟨rfl, hf6⟩)
            go_meet
            case rel => exact ⟨by rw [HN.out]; rfl, hf6, fun h => by rw [HN.out] at h; cases h⟩
          | true =>
            have HY : Hid (pblkF goodB (bs s) = some (a, b)) := by show _ = _; rw [HP2.out, if_pos hg]
            have HN : Hid (ok = true) := by show _ = _; rw [HOK.out, HY.out]; rfl
            have HG := Lib.hid (l8Good_any a b W5)
            go_wp2_with (go_at_call 85; refine (HG.out).mono ?_; rintro e w6 ⟨rfl, hf6⟩)
            go_meet
            case rel => exact ⟨by rw [HN.out]; rfl, hf6, fun _ => HY.out⟩
    case rest =>
      obtain ⟨rfl, hf6, HY⟩ := hcut
      have z0 := (HZ5.out.keep hf6).cell (i := 0) rfl
      have z1 := (HZ5.out.keep hf6).cell (i := 1) rfl
      have y0 := (HZ5.out.keep hf6).frozen 0
      have y1 := (HZ5.out.keep hf6).frozen 1
      have v0 := (HB5.out.keep hf6).cell (i := 0) rfl
      have v1 := (HB5.out.keep hf6).cell (i := 1) rfl
      have HFF := Lib.hid (fstep HF5.out hf6)
      cases ok with
      | true =>
        have HZN := Lib.hid (((HZ5.out.keep hf6).set 0 (.int .i64 a)).set 1 (.int .i64 b))
        have k0 := HZN.out.cell (i := 0) rfl
        have k1 := HZN.out.cell (i := 1) rfl
        go_wp2
        refine bodyPost_ret (v := .tuple #[.agg #[.int .i64 a, .int .i64 b], .bool true]) (by simp [results, Tryz.results63, go_sem, k0, k1]) rfl ?_
        exact OutPb.yes (HY.out (by first | rfl | trivial)) (fset (fset (fstep HF1.out HFF.out) (Nat.le_refl _) _) (Nat.le_refl _) _)
      | false =>
        have HN : Hid (pblkF goodB (bs s) = none) := by
          show _ = _
          have := HOK.out
          cases h : pblkF goodB (bs s) with
          | none => rfl
          | some z => rw [h] at this; cases this
        have HZN := Lib.hid (((HZ5.out.keep hf6).set 0 (.int .i64 0)).set 1 (.int .i64 0))
        have k0 := HZN.out.cell (i := 0) rfl
        have k1 := HZN.out.cell (i := 1) rfl
        go_wp2
        refine bodyPost_ret (v := .tuple #[.agg #[.int .i64 0, .int .i64 0], .bool false]) (by simp [results, Tryz.results63, go_sem, k0, k1]) rfl ?_
        exact OutPb.no HN.out (fset (fset (fstep HF1.out HFF.out) (Nat.le_refl _) _) (Nat.le_refl _) _)
  · have HN : Hid (pblkF goodB (bs s) = none) := pblk_bad goodS (fun x y h => absurd (by rw [HP.out, h]; rfl) h2)
    have h2z : ((P.length : Int) == 2) = false := by rw [beq_eq_false_iff_ne]; omega
    have z0 := HZ2.out.cell (i := 0) rfl
    have z1 := HZ2.out.cell (i := 1) rfl
    have y0 := HZ2.out.frozen 0
    have y1 := HZ2.out.frozen 1
    have HZN := Lib.hid ((HZ2.out.set 0 (.int .i64 0)).set 1 (.int .i64 0))
    have k0 := HZN.out.cell (i := 0) rfl
    have k1 := HZN.out.cell (i := 1) rfl
    clear h2
    go_wp2
    refine bodyPost_ret (v := .tuple #[.agg #[.int .i64 0, .int .i64 0], .bool false]) (by simp [results, Tryz.results63, go_sem, k0, k1]) rfl ?_
    exact OutPb.no HN.out (fset (fset (fstep HF1.out HF2.out) (Nat.le_refl _) _) (Nat.le_refl _) _)
end Go.Proofs.YtjhaoonacjebpaaGreatDoor
