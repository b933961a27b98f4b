/- Contracts: the smallest connected node of each node, the program's side. -/
import Derived.Test.YtlapicgeokjpjaaGreatMgC
import Derived.Test.YtlapicgeokjpjaaGreatGr2
import Derived.Deep.RegionHeld3
import Derived.Deep.DeepCutAuto
namespace Go.Proofs.YtlapicgeokjpjaaGreat
open Go.RowKit Go.PlainAid

theorem startC_len (k : Nat) : (startC k).length = k := by unfold startC; simp
theorem startC_succ (k : Nat) : startC (k + 1) = startC k ++ [(k : Int)] := by unfold startC; rw [List.range_succ, List.map_append]; rfl
theorem stepC_in {F : List Fib} {gone L : List Int} {i : Nat} {f : Fib} (hi : (i : Int) ∉ gone) (hf : F[i]? = some f) : stepC F gone L i = (L.set f.a.toNat (min (lab L f.a) (lab L f.b))).set f.b.toNat (min (lab L f.a) (lab L f.b)) := by unfold stepC; rw [if_neg hi, hf]
theorem stepC_out {F : List Fib} {gone L : List Int} {i : Nat} (hi : (i : Int) ∈ gone) : stepC F gone L i = L := by unfold stepC; rw [if_pos hi]
theorem set_app {L : List Int} {sp : List Value} {k : Nat} (h : k < L.length) (x : Int) : (L.map iv ++ sp).set k (iv x) = (L.set k x).map iv ++ sp := by
  rw [List.set_append_left _ _ (by rw [List.length_map]; exact h), List.map_set]
theorem lab_cell {w : World} {g : Nat} {T : TypeId} {L : List Int} {sp : List Value} (h : RowAt w g T (L.map iv ++ sp)) {k : Nat} (hk : k < L.length) : w.cell? ⟨g, k, none⟩ = some (.int .i64 (lab L (k : Int))) := by
  refine h.cell ?_
  rw [List.getElem?_append_left (by rw [List.length_map]; exact hk), List.getElem?_map, List.getElem?_eq_getElem hk]
  unfold lab
  rw [Int.toNat_natCast, List.getD_eq_getElem?_getD, List.getElem?_eq_getElem hk]; rfl
theorem keep_ab {w w' : World} {b : Nat} {u v : Value} (h : w.cell? ⟨b, 0, none⟩ = some u ∧ w.cell? ⟨b, 1, none⟩ = some v) (hb : Fresh w w') : w'.cell? ⟨b, 0, none⟩ = some u ∧ w'.cell? ⟨b, 1, none⟩ = some v := ⟨fkeep hb h.1, fkeep hb h.2⟩
set_option maxHeartbeats 4000000 in
set_option maxRecDepth 100000 in
theorem components_any (v : Value) (n : Net) (p : Option Addr) (cap : Nat) (gone : List Int) (w : World) (h : NetIn w v n) (hF : ∀ f ∈ n.fibers, 0 ≤ f.a ∧ f.a < f.b ∧ f.b < (n.nodes.length : Int)) (h0 : 0 < n.nodes.length) (h8 : n.nodes.length ≤ 8) (h14 : n.fibers.length ≤ 14) (hg : Ints w p gone) (ng : gone.length ≤ 1048576) :
    Calls Tryz.prog 61 #[v, .slice p gone.length cap] w (OutInts w (compC n.fibers gone n.nodes.length)) := by
  have HFB := Lib.hid hF
  obtain ⟨qn, cn, pn, cp, rfl, hS, hFi, n1, _, _, _, _⟩ := h
  obtain ⟨W1, hW1⟩ : ∃ W1, W1 = w.alloc (.cells #[.slice qn n.nodes.length cn, .slice pn n.fibers.length cp] 27) := ⟨_, rfl⟩
  have hf1 : Fresh w W1 := by rw [hW1]; exact fnew (frefl _) _
  have HR1 : Hid (RowAt W1 w.heap.size 27 [.slice qn n.nodes.length cn, .slice pn n.fibers.length cp]) := by show RowAt _ _ _ _; rw [hW1]; exact RowAt.new _ _ _
  have HFI := Lib.hid (hFi.keep hf1)
  have HG := Lib.hid (hg.keep hf1)
  have HF1 := Lib.hid hf1
  have HS1 := Lib.hid hf1.size
  have hown0 : (W1.alloc (.cells #[] 3)).ownsRow W1.heap.size 3 1 (.slice (some ⟨w.heap.size + 1, 0, none⟩) 0 0) 0 [] := by
    have e : w.heap.size + 1 = W1.heap.size := by rw [hW1]; simp
    rw [e]; exact World.ownsRow_made W1 #[] 0 (Nat.le_refl _) (by simp [maxLen]) rfl
  have HOWN0 := Lib.hid hown0
  have HW1 := Lib.hid hW1
  clear hown0 hg hFi hS hf1 hW1 hF
  go_enter Tryz.func61, Tryz.ntmps61
  go_wp2_with fail
  rw [← HW1.out]
  go_loopw [5, 14] (fun o j wr => ∃ k : Nat, k ≤ n.nodes.length ∧ j = .int .i64 k ∧ wr.ownsRow W1.heap.size 3 1 o (startC k).length ((startC k).map iv) ∧ Fresh W1 wr) (fun _ j _ => n.nodes.length - (intOf j).toNat)
  case atStart => exact ⟨0, Nat.zero_le _, rfl, HOWN0.out, fnew (frefl _) _⟩
  case round =>
    obtain ⟨k, hk, rfl, hown, hf⟩ := hrel
    have HO := Lib.hid hown
    have HF := Lib.hid hf
    have e0 := (HR1.out.keep hf).cell (i := 0) rfl
    have e1 := (HR1.out.keep hf).cell (i := 1) rfl
    clear hown hf
    by_cases hlt : k < n.nodes.length
    · have hltz : (k : Int) < (n.nodes.length : Int) := by omega
      have HY : Hid (startC (k + 1) = startC k ++ [(k : Int)]) := startC_succ k
      have hil : (startC k).length ≤ 1048576 := by rw [startC_len]; omega
      obtain ⟨I, hI⟩ : ∃ I, I = startC k := ⟨_, rfl⟩
      rw [← hI] at HO HY hil
      have hown2 := HO.out
      clear hI HO
      go_wp2_with (at_builtin; refine wpList_app_i W1 _ _ I (k : Int) _ rfl _ _ rfl rfl hown2 rfl rfl (by omega) HF.out ?_; intro v' w3 hown3 hf3 _)
      have HO3 := Lib.hid hown3
      have HF3 := Lib.hid hf3
      clear hown2 hown3 hf3
      go_wp2
      go_roundw
      case rel => exact ⟨k + 1, by omega, by go_num, by rw [HY.out]; exact HO3.out, HF3.out⟩
      case measure => simp [intOf]; omega
    · have hkl : k = n.nodes.length := by omega
      have hltz : ¬ (k : Int) < (n.nodes.length : Int) := by omega
      subst hkl
      obtain ⟨wo, hwo⟩ : ∃ W, W = wr := ⟨_, rfl⟩
      rw [← hwo] at HO HF e0 e1 ⊢
      obtain ⟨pr, cr, rfl, ho⟩ := own_of_row HO.out
      rw [startC_len]
      clear hwo HO
      rcases ho with ⟨_, ho⟩ | ⟨g, sp, rfl, hg1, hrow⟩
      · exfalso
        have hh : (List.map iv (startC n.nodes.length)).length = 0 := by rw [ho]; rfl
        rw [List.length_map, startC_len] at hh
        omega
      have HROW := Lib.hid hrow
      clear hrow
      go_wp2
      go_loopw [25] (fun j wr => ∃ k : Nat, k ≤ n.nodes.length ∧ j = .int .i64 k ∧ RowAt wr g 3 ((compTo n.fibers gone n.nodes.length k).map iv ++ sp) ∧ Fresh W1 wr) (fun j _ => n.nodes.length - (intOf j).toNat)
      case atStart => exact ⟨0, Nat.zero_le _, rfl, HROW.out, HF.out⟩
      case round =>
        obtain ⟨k, hk, rfl, hrow, hf⟩ := hrel
        have HRW := Lib.hid hrow
        have HFO := Lib.hid hf
        have f0 := (HR1.out.keep hf).cell (i := 0) rfl
        have f1 := (HR1.out.keep hf).cell (i := 1) rfl
        clear hrow hf e0 e1
        by_cases hlt : k < n.nodes.length
        · have hltz : (k : Int) < (n.nodes.length : Int) := by omega
          obtain ⟨w4, hw4⟩ : ∃ W, W = wr := ⟨_, rfl⟩
          rw [← hw4] at HRW HFO f0 f1 ⊢
          obtain ⟨L, hL⟩ : ∃ L, L = compTo n.fibers gone n.nodes.length k := ⟨_, rfl⟩
          have HLL : Hid (L.length = n.nodes.length) := by show _ = _; rw [hL, compTo_len]
          have HL := Lib.hid hL
          rw [← hL] at HRW
          clear hL hw4
          go_wp2
          go_loopw [30] (fun j wr => ∃ i : Nat, i ≤ n.fibers.length ∧ j = .int .i64 i ∧ RowAt wr g 3 ((roundTo n.fibers gone L i).map iv ++ sp) ∧ Fresh W1 wr) (fun j _ => n.fibers.length - (intOf j).toNat)
          case atStart => exact ⟨0, Nat.zero_le _, rfl, HRW.out, HFO.out⟩
          case round =>
            obtain ⟨i, hi, rfl, hrow, hf⟩ := hrel
            have HRX := Lib.hid hrow
            have HFX := Lib.hid hf
            clear hrow hf f0 f1
            by_cases hil : i < n.fibers.length
            · have hilz : (i : Int) < (n.fibers.length : Int) := by omega
              obtain ⟨bd, od, da, db, dl, dr, rfl, hdx, d0, d1, d2, d3⟩ := (HFI.out.keep HFX.out).at hil
              have hfb := HFB.out _ (List.mem_of_getElem? hdx)
              simp only at hfb
              obtain ⟨ai, rfl⟩ : ∃ k : Nat, da = (k : Int) := ⟨da.toNat, by omega⟩
              obtain ⟨bi, rfl⟩ : ∃ k : Nat, db = (k : Int) := ⟨db.toNat, by omega⟩
              have haz : (ai : Int) < (n.nodes.length : Int) := by omega
              have hbz : (bi : Int) < (n.nodes.length : Int) := by omega
              have HDX := Lib.hid hdx
              obtain ⟨Wb, hWb⟩ : ∃ W, W = wr.alloc (.cells #[.int .i64 (ai : Int), .int .i64 (bi : Int), .int .i64 dl, .int .i64 dr] 76) := ⟨_, rfl⟩
              have hfw : Fresh wr Wb := by rw [hWb]; exact fnew (frefl _) _
              have hrb : RowAt Wb wr.heap.size 76 [.int .i64 (ai : Int), .int .i64 (bi : Int), .int .i64 dl, .int .i64 dr] := by rw [hWb]; exact RowAt.new _ _ _
              have HC := Lib.hid (containsI_any p cap gone (i : Int) Wb (HG.out.keep (fstep HFX.out hfw)) (by omega))
              have HRB := Lib.hid hrb
              have HFW := Lib.hid (fstep HFX.out hfw)
              have hrx := HRX.out.keep hfw
              have HWB := Lib.hid hWb
              have hgl := HRX.out.lt
              obtain ⟨M, hM⟩ : ∃ M, M = roundTo n.fibers gone L i := ⟨_, rfl⟩
              have hMl : M.length = n.nodes.length := by rw [hM, roundTo_len, HLL.out]
              rw [← hM] at hrx
              have ca := lab_cell hrx (k := ai) (by omega)
              have cb := lab_cell hrx (k := bi) (by omega)
              have HST : Hid ((i : Int) ∉ gone → (((M.map iv ++ sp).set ai (iv (min (lab M ai) (lab M bi)))).set bi (iv (min (lab M ai) (lab M bi)))) = (roundTo n.fibers gone L (i + 1)).map iv ++ sp) := fun hin => by
                rw [set_app (by omega), set_app (by rw [List.length_set]; omega), roundTo_succ, ← hM, stepC_in hin HDX.out]
                simp only [Int.toNat_natCast]
              have HSO : Hid ((i : Int) ∈ gone → roundTo n.fibers gone L (i + 1) = M) := fun hin => by rw [roundTo_succ, ← hM, stepC_out hin]
              have HMR := Lib.hid hrx
              have HML := Lib.hid hMl
              obtain ⟨la, hla⟩ : ∃ x, x = lab M (ai : Int) := ⟨_, rfl⟩
              obtain ⟨lb, hlb⟩ : ∃ x, x = lab M (bi : Int) := ⟨_, rfl⟩
              rw [← hla] at ca HST
              rw [← hlb] at cb HST
              have b0 := hrb.cell (i := 0) rfl
              have b1 := hrb.cell (i := 1) rfl
              have hng : wr.heap.size ≠ g := by omega
              clear hdx hfw hrb hWb hfb hrx hM hMl hla hlb
              go_wp2_with fail
              rw [← HWB.out]
              refine (HC.out).mono ?_
              rintro e w5 ⟨rfl, rfl⟩
              by_cases hin : (i : Int) ∈ gone
              · have hdc : decide ((i : Int) ∈ gone) = true := decide_eq_true hin
                clear ca cb b0 b1 d0 d1 d2 d3
                go_wp2
                go_roundw
                case rel => exact ⟨i + 1, by omega, by go_num, by rw [HSO.out hin]; exact HMR.out, HFW.out⟩
                case measure => simp [intOf]; omega
              · have hdc : decide ((i : Int) ∈ gone) = false := decide_eq_false hin
                go_upto_region 13 with fail
                have HSS : Wb.cell? ⟨wr.heap.size, 0, none⟩ = some (.int .i64 (ai : Int)) ∧ Wb.cell? ⟨wr.heap.size, 1, none⟩ = some (.int .i64 (bi : Int)) := ⟨b0, b1⟩
                refine hd_start (n := 11) (S := fun w' => w'.cell? ⟨wr.heap.size, 0, none⟩ = some (.int .i64 (ai : Int)) ∧ w'.cell? ⟨wr.heap.size, 1, none⟩ = some (.int .i64 (bi : Int)) ∧ w'.cell? ⟨g, ai, none⟩ = some (.int .i64 la) ∧ w'.cell? ⟨g, bi, none⟩ = some (.int .i64 lb)) (by kernel_rfl) (by kernel_rfl) ⟨fkeep (fdrew (frefl _)) b0, fkeep (fdrew (frefl _)) b1, fkeep (fdrew (frefl _)) ca, fkeep (fdrew (frefl _)) cb⟩ (fun hHeld => ?_)
                obtain ⟨Wy, hWy⟩ : ∃ W, W = Wb.drew := ⟨_, rfl⟩
                rw [← hWy] at hHeld ⊢
                have fy : Fresh Wb Wy := by rw [hWy]; exact fdrew (frefl _)
                clear hWy
                refine hd_tk (i := 0) (v := ?_) rfl ?_ ?_
                rotate_left
                · (intro w hSw; (try dsimp only at hSw); go_simp; first | done | with_reducible rfl)
                try simp only [PU]
                refine hd_tk (i := 1) (v := ?_) rfl ?_ ?_
                rotate_left
                · (intro w hSw; (try dsimp only at hSw); go_simp; first | done | with_reducible rfl)
                try simp only [PU]
                refine hd_tk (i := 2) (v := ?_) rfl ?_ ?_
                rotate_left
                · (intro w hSw; (try dsimp only at hSw); go_simp; first | done | with_reducible rfl)
                try simp only [PU]
                refine hd_tk (i := 3) (v := ?_) rfl ?_ ?_
                rotate_left
                · (intro w hSw; (try dsimp only at hSw); go_simp; first | done | with_reducible rfl)
                try simp only [PU]
                refine hd_tk (i := 4) (v := ?_) rfl ?_ ?_
                rotate_left
                · (intro w hSw; (try dsimp only at hSw); go_simp; first | done | with_reducible rfl)
                try simp only [PU]
                refine hd_tk (i := 5) (v := ?_) rfl ?_ ?_
                rotate_left
                · (intro w hSw; (try dsimp only at hSw); go_simp; first | done | with_reducible rfl)
                try simp only [PU]
                refine hd_tk (i := 6) (v := ?_) rfl ?_ ?_
                rotate_left
                · (intro w hSw; (try dsimp only at hSw); go_simp; first | done | with_reducible rfl)
                try simp only [PU]
                refine hd_tk (i := 7) (v := ?_) rfl ?_ ?_
                rotate_left
                · (intro w hSw; (try dsimp only at hSw); go_simp; first | done | with_reducible rfl)
                try simp only [PU]
                refine hd_tk (i := 8) (v := ?_) rfl ?_ ?_
                rotate_left
                · (intro w hSw; (try dsimp only at hSw); go_simp; first | done | with_reducible rfl)
                try simp only [PU]
                refine hd_tk (i := 9) (v := ?_) rfl ?_ ?_
                rotate_left
                · (intro w hSw; (try dsimp only at hSw); go_simp; first | done | with_reducible rfl)
                try simp only [PU]
                refine hd_tk (i := 10) (v := ?_) rfl ?_ ?_
                rotate_left
                · (intro w hSw; (try dsimp only at hSw); go_simp; first | done | with_reducible rfl)
                try simp only [PU]
                refine hd_done (by kernel_rfl) ?_
                clear hHeld
                simp only [List.drop_succ_cons, List.drop_zero]
                have HS2 := keep_ab HSS fy
                have hry := HMR.out.keep fy
                have HFY := Lib.hid (fstep HFW.out fy)
                have FY := Lib.hid fy
                clear HSS fy ca cb b0 b1 d0 d1 d2 d3
                go_upto_region 14 with fail
                refine hd_start (n := 11) (S := fun w' => w'.cell? ⟨wr.heap.size, 0, none⟩ = some (.int .i64 (ai : Int)) ∧ w'.cell? ⟨wr.heap.size, 1, none⟩ = some (.int .i64 (bi : Int))) (by kernel_rfl) (by kernel_rfl) (keep_ab HS2 (fdrew (frefl _))) (fun hHeld => ?_)
                obtain ⟨Wz, hWz⟩ : ∃ W, W = Wy.drew := ⟨_, rfl⟩
                rw [← hWz] at hHeld ⊢
                have fz : Fresh Wy Wz := by rw [hWz]; exact fdrew (frefl _)
                have hrz := hry.keep fz
                have HS3 := keep_ab HS2 fz
                have va := hrz.frozen ai
                have ha0 : ∃ y, (M.map iv ++ sp)[ai]? = some y := ⟨_, List.getElem?_eq_getElem (by rw [List.length_append, List.length_map]; have := HML.out; omega)⟩
                obtain ⟨ya, hya⟩ := ha0
                have ca := hrz.cell hya
                have hrs := hrz.set ai (iv (min la lb))
                have vb := hrs.frozen bi
                have hb0 : ∃ y, ((M.map iv ++ sp).set ai (iv (min la lb)))[bi]? = some y := ⟨_, List.getElem?_eq_getElem (by rw [List.length_set, List.length_append, List.length_map]; have := HML.out; omega)⟩
                obtain ⟨yb, hyb⟩ := hb0
                have cb := hrs.cell hyb
                have HRS := Lib.hid (hrs.set bi (iv (min la lb)))
                have HS4 : ∀ u, (Wz.setCell ⟨g, ai, none⟩ u).cell? ⟨wr.heap.size, 0, none⟩ = some (.int .i64 (ai : Int)) ∧ (Wz.setCell ⟨g, ai, none⟩ u).cell? ⟨wr.heap.size, 1, none⟩ = some (.int .i64 (bi : Int)) := fun u => ⟨by
                  have := ((HRB.out.keep (fstep FY.out fz)).setOther hng (o := ai) u).cell (i := 0) rfl
                  exact this, by
                  have := ((HRB.out.keep (fstep FY.out fz)).setOther hng (o := ai) u).cell (i := 1) rfl
                  exact this⟩
                have HFZ := Lib.hid (fset (fset (fstep HFY.out fz) hg1 (o := ai) (iv (min la lb))) hg1 (o := bi) (iv (min la lb)))
                clear hWz hrz hrs hya hyb hry fz
                refine hd_tk (i := 0) (v := ?_) rfl ?_ ?_
                rotate_left
                · (intro w hSw; (try dsimp only at hSw); go_simp; first | done | with_reducible rfl)
                try simp only [PU]
                refine hd_tk (i := 1) (v := ?_) rfl ?_ ?_
                rotate_left
                · (intro w hSw; (try dsimp only at hSw); go_simp; first | done | with_reducible rfl)
                try simp only [PU]
                refine hd_tk (i := 2) (v := ?_) rfl ?_ ?_
                rotate_left
                · (intro w hSw; (try dsimp only at hSw); go_simp; first | done | with_reducible rfl)
                try simp only [PU]
                refine hd_tk (i := 6) (v := ?_) rfl ?_ ?_
                rotate_left
                · (intro w hSw; (try dsimp only at hSw); go_simp; first | done | with_reducible rfl)
                try simp only [PU]
                refine hd_tk (i := 3) (v := ?_) rfl ?_ ?_
                rotate_left
                · (intro w hSw; (try dsimp only at hSw); go_simp; first | done | with_reducible rfl)
                try simp only [PU]
                refine hd_tk (i := 4) (v := ?_) rfl ?_ ?_
                rotate_left
                · (intro w hSw; (try dsimp only at hSw); go_simp; first | done | with_reducible rfl)
                try simp only [PU]
                refine hd_tk (i := 5) (v := ?_) rfl ?_ ?_
                rotate_left
                · (intro w hSw; (try dsimp only at hSw); go_simp; first | done | with_reducible rfl)
                try simp only [PU]
                refine hd_tk (i := 7) (v := ?_) rfl ?_ ?_
                rotate_left
                · (intro w hSw; (try dsimp only at hSw); go_simp; first | done | with_reducible rfl)
                try simp only [PU]
                refine hd_tk (i := 8) (v := ?_) rfl ?_ ?_
                rotate_left
                · (intro w hSw; (try dsimp only at hSw); go_simp; first | done | with_reducible rfl)
                try simp only [PU]
                refine hd_one (i := 9) rfl (by kernel_rfl) (by kernel_rfl) (fun K hK => ?_)
                (go_simp)
                refine hK.out _ _ ?_ (fun hHeld => ?_)
                · exact HS4 _
                clear hK K
                try simp only [PU]
                refine hd_tk (i := 10) (v := ?_) rfl ?_ ?_
                rotate_left
                · (intro w hSw; (try dsimp only at hSw); go_simp; first | done | with_reducible rfl)
                try simp only [PU]
                refine hd_done (by kernel_rfl) ?_
                clear hHeld HS3 HS4 HS2
                simp only [List.drop_succ_cons, List.drop_zero]
                go_wp2
                go_roundw
                case rel => exact ⟨i + 1, by omega, by go_num, by rw [← HST.out hin]; exact HRS.out, HFZ.out⟩
                case measure => simp [intOf]; omega
            · have hie : i = n.fibers.length := by omega
              have hilz : ¬ (i : Int) < (n.fibers.length : Int) := by omega
              subst hie
              go_wp2
              go_roundw
              case rel => exact ⟨k + 1, by omega, by go_num, by rw [compTo, ← HL.out]; exact HRX.out, HFX.out⟩
              case measure => simp [intOf]; omega
        · have hkl : k = n.nodes.length := by omega
          have hltz : ¬ (k : Int) < (n.nodes.length : Int) := by omega
          subst hkl
          clear f0 f1
          go_wp2
          go_ret
          exact ⟨some ⟨g, 0, none⟩, cr, by rw [show (compC n.fibers gone n.nodes.length).length = n.nodes.length from compTo_len _ _ _ _]; rfl, Or.inr ⟨g, sp, rfl, Nat.le_trans HS1.out hg1, HRW.out⟩, fstep HF1.out HFO.out⟩
end Go.Proofs.YtlapicgeokjpjaaGreat
