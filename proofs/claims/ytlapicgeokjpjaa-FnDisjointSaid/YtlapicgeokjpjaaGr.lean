/- Contracts: risk groups, the program's side. -/
import Derived.Test.YtlapicgeokjpjaaM2
namespace Go.Proofs.Ytlapicgeokjpjaa
open Go.RowKit Go.PlainAid

def OutRows (w : World) (L : List (List Int)) (e : Ending) (w' : World) : Prop := ∃ p c, ∃ l : List LI, e = .returned (.slice p l.length c) ∧ l.map LI.xs = L ∧ Own w' w.heap.size 28 p (l.map liV) ∧ OwnS w' w.heap.size l ∧ Fresh w w'
set_option maxHeartbeats 4000000 in
set_option maxRecDepth 100000 in
theorem groups_any (v : Value) (n : Net) (w : World) (h : NetIn w v n) (h14 : n.fibers.length ≤ 14) :
    Calls Try.prog 65 #[v] w (OutRows w (groupsL n.fibers)) := by
  obtain ⟨q, c, p, d, rfl, hq, hp, _⟩ := h
  obtain ⟨W1, hW1⟩ : ∃ W1, W1 = w.alloc (.cells #[.slice q n.nodes.length c, .slice p n.fibers.length d] 27) := ⟨_, rfl⟩
  have hf1 : Fresh w W1 := by rw [hW1]; exact fnew (frefl _) _
  have HR1 : Hid (RowAt W1 w.heap.size 27 [.slice q n.nodes.length c, .slice p n.fibers.length d]) := by show RowAt _ _ _ _; rw [hW1]; exact RowAt.new _ _ _
  have HP := Lib.hid (hp.keep hf1)
  have HF1 := Lib.hid hf1
  have HS1 := Lib.hid hf1.size
  have hown0 : (W1.alloc (.cells #[] 28)).ownsRow W1.heap.size 28 1 (.slice (some ⟨w.heap.size + 1, 0, none⟩) 0 0) 0 [] := by
    have e : w.heap.size + 1 = W1.heap.size := by rw [hW1]; simp
    rw [e]; exact World.ownsRow_made W1 #[] 0 (Nat.le_refl _) (by simp [maxLen]) rfl
  have HOWN0 := Lib.hid hown0
  clear hown0
  have HW1 := Lib.hid hW1
  obtain ⟨F, hF⟩ : ∃ F, F = n.fibers := ⟨_, rfl⟩
  have k1 := HR1.out.cell (i := 1) rfl
  rw [← hF] at HP h14 k1 HR1 HW1 ⊢
  clear hp hq hf1 hW1 hF
  go_enter Try.func65, Try.ntmps65
  go_wp2_with fail
  rw [← HW1.out]
  go_loopw [3, 4] (fun o r wr => ∃ (m : Nat) (l : List LI), m ≤ 9 ∧ r = .int .i64 ((m : Int) + 1) ∧ wr.ownsRow W1.heap.size 28 1 o l.length (l.map liV) ∧ l.map LI.xs = grpTo F m ∧ OwnS wr W1.heap.size l ∧ Fresh W1 wr) (fun _ r _ => 10 - (intOf r).toNat)
  case atStart => exact ⟨0, [], by omega, rfl, HOWN0.out, rfl, fun x hx => (by cases hx), fnew (frefl _) _⟩
  case round =>
    obtain ⟨m, l, hm, rfl, hown, hval, hos, hf⟩ := hrel
    have HO := Lib.hid hown
    have HV := Lib.hid hval
    have HOS := Lib.hid hos
    have HF := Lib.hid hf
    have HLN : Hid (l.length ≤ 9) := by
      show _ ≤ _
      have := congrArg List.length hval
      rw [List.length_map] at this
      rw [this]; exact Nat.le_trans (grpTo_len _ _) hm
    have k1 := (HR1.out.keep hf).cell (i := 1) rfl
    clear hown hval hos hf
    obtain ⟨wo, rfl⟩ : ∃ wo, wo = wr := ⟨_, rfl⟩
    by_cases h9 : m < 9
    · have hle : (m : Int) + 1 ≤ 9 := by omega
      have k1a := fkeep (fnew (frefl wo) (.cells #[] 3)) k1
      go_wp2
      clear k1a
      go_loopw [5, 19] (fun li j wi => ∃ k : Nat, k ≤ F.length ∧ j = .int .i64 k ∧ wi.ownsRow wo.heap.size 3 1 li (ofRisk F ((m : Int) + 1) k).length ((ofRisk F ((m : Int) + 1) k).map iv) ∧ Fresh wo wi) (fun _ j _ => F.length - (intOf j).toNat)
      case atStart => exact ⟨0, Nat.zero_le _, rfl, World.ownsRow_made wo #[] 0 (Nat.le_refl _) (by simp [maxLen]) rfl, fnew (frefl _) _⟩
      case round =>
        obtain ⟨k, hk, rfl, hown, hf⟩ := hrel
        have HI := Lib.hid hown
        have HG := Lib.hid hf
        have hln := ofRisk_len F ((m : Int) + 1) k
        clear hown hf
        by_cases hlt : k < F.length
        · have hltz : (k : Int) < (F.length : Int) := by omega
          obtain ⟨b, off, x, y, z, u, rfl, hx, hc0, hc1, hc2, hc3⟩ := (HP.out.keep (fstep HF.out HG.out)).at hlt
          have HX := Lib.hid (riskAt_of hx)
          clear hx
          by_cases hz : u = (m : Int) + 1
          · have hzb : (u == (m : Int) + 1) = true := by simp [hz]
            have HY : Hid (ofRisk F ((m : Int) + 1) (k + 1) = ofRisk F ((m : Int) + 1) k ++ [(k : Int)]) := ofRisk_yes (by rw [HX.out]; exact hz)
            obtain ⟨I, hI⟩ : ∃ I, I = ofRisk F ((m : Int) + 1) k := ⟨_, rfl⟩
            rw [← hI] at HY HI hln
            have hownI := (HI.out).alloc (.cells #[.int .i64 x, .int .i64 y, .int .i64 z, .int .i64 u] 59)
            have hfI := fnew HG.out (.cells #[.int .i64 x, .int .i64 y, .int .i64 z, .int .i64 u] 59)
            have HFI := Lib.hid hfI
            clear hI hz hfI
            go_wp2_with (at_builtin; refine wpList_app_i wo _ _ I (k : Int) _ rfl _ _ rfl rfl hownI rfl (by simp) (by omega) HFI.out ?_; intro v' w3 hown3 hf3 _)
            have HO3 := Lib.hid hown3
            have HF3 := Lib.hid hf3
            clear hown3 hf3 hownI
            go_wp2
            go_roundw
            case rel => exact ⟨k + 1, by omega, by go_num, by rw [HY.out]; exact HO3.out, HF3.out⟩
            case measure => simp [intOf]; omega
          · have hzb : (u == (m : Int) + 1) = false := by simp [hz]
            have HY : Hid (ofRisk F ((m : Int) + 1) (k + 1) = ofRisk F ((m : Int) + 1) k) := ofRisk_no (by rw [HX.out]; exact hz)
            go_wp2
            go_roundw
            case rel => exact ⟨k + 1, by omega, by go_num, by rw [HY.out]; exact (HI.out).alloc _, fnew HG.out _⟩
            case measure => simp [intOf]; omega
        · have hkn : k = F.length := by omega
          have hltz : ¬ (k : Int) < (F.length : Int) := by omega
          subst hkn
          have HFW := Lib.hid (fstep HF.out HG.out)
          have HOW := Lib.hid (ownsRow_keep HO.out HG.out)
          have HSW := Lib.hid (HOS.out.keep HG.out)
          obtain ⟨pl, cl, rfl, hol⟩ := own_of_row HI.out
          have HOL := Lib.hid (hol.mono HF.out.size)
          clear hol
          by_cases hz : (ofRisk F ((m : Int) + 1) F.length).length = 0
          · have hzz : ¬ (0 : Int) < ((ofRisk F ((m : Int) + 1) F.length).length : Int) := by omega
            have HY := Lib.hid (grpTo_no hz)
            clear hz
            go_wp2
            go_roundw
            case rel => exact ⟨m + 1, l, by omega, by go_num, HOW.out, by rw [HY.out]; exact HV.out, HSW.out, HFW.out⟩
            case measure => simp [intOf]; omega
          · have hzz : (0 : Int) < ((ofRisk F ((m : Int) + 1) F.length).length : Int) := by omega
            have HY := Lib.hid (grpTo_yes hz)
            have hln9 := HLN.out
            have hownO := HOW.out
            obtain ⟨I, hI⟩ : ∃ I, I = ofRisk F ((m : Int) + 1) F.length := ⟨_, rfl⟩
            rw [← hI] at HOL HY hzz ⊢
            clear hz hI
            go_wp2_with (at_builtin; refine wpList_app_g Try.underlying55 infoIs rfl (by decide) (by decide) W1 _ _ l.length (l.map liV) [liV ⟨pl, cl, I⟩] _ rfl (by intro u hu; simp at hu; subst hu; rfl) rfl _ _ rfl rfl hownO rfl rfl (by omega) HFW.out ?_; intro v' w3 hown3 hf3 hkp)
            have HO3 := Lib.hid hown3
            have HF3 := Lib.hid hf3
            have HK3 := Lib.hid hkp
            clear hown3 hf3 hkp hownO
            go_wp2
            go_roundw
            case rel => exact ⟨m + 1, l ++ [⟨pl, cl, I⟩], by omega, by go_num, by rw [List.map_append, List.length_append]; exact HO3.out, by rw [HY.out, List.map_append, HV.out]; rfl, (HSW.out.grown HK3.out (by decide)).snoc (Own.grown HOL.out HK3.out (by decide)), HF3.out⟩
            case measure => simp [intOf]; omega
    · have hm9 : m = 9 := by omega
      subst hm9
      have hle : ¬ ((9 : Nat) : Int) + 1 ≤ 9 := by omega
      go_wp2
      go_loopw [3, 43] (fun o j wi => ∃ (k : Nat) (l : List LI), k ≤ F.length ∧ j = .int .i64 k ∧ wi.ownsRow W1.heap.size 28 1 o l.length (l.map liV) ∧ l.map LI.xs = grpTo F 9 ++ zerTo F k ∧ OwnS wi W1.heap.size l ∧ Fresh W1 wi) (fun _ j _ => F.length - (intOf j).toNat)
      case atStart => exact ⟨0, l, Nat.zero_le _, rfl, HO.out, by rw [HV.out]; simp [zerTo], HOS.out, HF.out⟩
      case round =>
        obtain ⟨k, l2, hk, rfl, hown, hval2, hos2, hf⟩ := hrel
        have HO2 := Lib.hid hown
        have HV2 := Lib.hid hval2
        have HOS2 := Lib.hid hos2
        have HG := Lib.hid hf
        have HLN2 : Hid (l2.length ≤ 23) := by
          show _ ≤ _
          have := congrArg List.length hval2
          rw [List.length_map, List.length_append] at this
          have h1 := grpTo_len F 9
          have h2 := zerTo_len F k
          omega
        clear hown hval2 hos2 hf
        by_cases hlt : k < F.length
        · have hltz : (k : Int) < (F.length : Int) := by omega
          obtain ⟨b, off, x, y, z, u, rfl, hx, hc0, hc1, hc2, hc3⟩ := (HP.out.keep HG.out).at hlt
          have HX := Lib.hid (riskAt_of hx)
          clear hx
          by_cases hz : u = 0
          · have hzb : (u == 0) = true := by simp [hz]
            have HY : Hid (zerTo F (k + 1) = zerTo F k ++ [[(k : Int)]]) := zerTo_yes (by rw [HX.out]; exact hz)
            have hln2 := HLN2.out
            have hf4 : Fresh wr ((wr.alloc (.cells #[.int .i64 x, .int .i64 y, .int .i64 z, .int .i64 u] 59)).alloc (.cells #[.int .i64 k] 3)) := fnew (fnew (frefl _) _) _
            have hr4 : RowAt ((wr.alloc (.cells #[.int .i64 x, .int .i64 y, .int .i64 z, .int .i64 u] 59)).alloc (.cells #[.int .i64 k] 3)) (wr.heap.size + 1) 3 [iv k] := by
              have := RowAt.new (wr.alloc (.cells #[.int .i64 x, .int .i64 y, .int .i64 z, .int .i64 u] 59)) 3 [iv k]
              simpa using this
            have hown4 := ownsRow_keep HO2.out hf4
            have HF4 := Lib.hid (fstep HG.out hf4)
            have HOS4 := Lib.hid (HOS2.out.keep hf4)
            have HR4 := Lib.hid hr4
            have HSZ := Lib.hid HG.out.size
            clear hf4 hr4 hz
            go_wp2_with (at_builtin; refine wpList_app_g Try.underlying55 infoIs rfl (by decide) (by decide) W1 _ _ l2.length (l2.map liV) [liV ⟨some ⟨wr.heap.size + 1, 0, none⟩, 1, [(k : Int)]⟩] _ rfl (by intro u hu; simp at hu; subst hu; rfl) rfl _ _ rfl rfl hown4 rfl (by simp) (by omega) HF4.out ?_; intro v' w3 hown3 hf3 hkp)
            have HO3 := Lib.hid hown3
            have HF3 := Lib.hid hf3
            have HK3 := Lib.hid hkp
            clear hown3 hf3 hkp hown4
            go_wp2
            go_roundw
            case rel => exact ⟨k + 1, l2 ++ [⟨some ⟨wr.heap.size + 1, 0, none⟩, 1, [(k : Int)]⟩], by omega, by go_num, by rw [List.map_append, List.length_append]; exact HO3.out, by rw [HY.out, List.map_append, HV2.out, List.append_assoc]; rfl, (HOS4.out.grown HK3.out (by decide)).snoc (Or.inr ⟨wr.heap.size + 1, [], rfl, by have := HSZ.out; omega, by rw [List.append_nil]; exact HK3.out _ _ _ HR4.out (by decide)⟩), HF3.out⟩
            case measure => simp [intOf]; omega
          · have hzb : (u == 0) = false := by simp [hz]
            have HY : Hid (zerTo F (k + 1) = zerTo F k) := zerTo_no (by rw [HX.out]; exact hz)
            go_wp2
            go_roundw
            case rel => exact ⟨k + 1, l2, by omega, by go_num, (HO2.out).alloc _, by rw [HY.out]; exact HV2.out, HOS2.out.keep (fnew (frefl _) _), fnew HG.out _⟩
            case measure => simp [intOf]; omega
        · have hkn : k = F.length := by omega
          have hltz : ¬ (k : Int) < (F.length : Int) := by omega
          subst hkn
          obtain ⟨pr, cr, rfl, ho⟩ := own_of_row HO2.out
          have HOO := Lib.hid ho
          clear ho
          go_wp2
          go_ret
          exact ⟨pr, cr, l2, rfl, HV2.out, HOO.out.mono HS1.out, HOS2.out.mono HS1.out, fstep HF1.out HG.out⟩
end Go.Proofs.Ytlapicgeokjpjaa
