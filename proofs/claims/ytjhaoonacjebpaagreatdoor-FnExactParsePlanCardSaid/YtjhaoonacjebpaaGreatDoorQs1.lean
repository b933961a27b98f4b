/- Contracts: a fiber's line is read, the reference's side. (Printed by gen_qs1.py.) -/
import Derived.Test.YtjhaoonacjebpaaGreatDoorPr1
namespace Go.Proofs.YtjhaoonacjebpaaGreatDoor
open Go.RowKit Go.PlainAid

/-- A fiber is handed back, and whether the words could be read: the right one where the words are a fiber's. -/
def OutLf (nodes : List ByteArray) (W : List (List UInt8)) (w : World) (e : Ending) (w' : World) : Prop := ∃ (a b c d : Int) (k : Bool), e = .returned (.tuple #[.agg #[.int .i64 a, .int .i64 b, .int .i64 c, .int .i64 d], .bool k]) ∧ Fresh w w' ∧
  ∀ M : Net, netB M = true → M.nodes = nodes → ∀ g ∈ M.fibers, splitC 32 (fibL nodes g) = W → k = true ∧ g = ⟨a, b, c, d⟩
theorem lbeq {a b : List UInt8} (h : a = b) : (a == b) = true := by rw [h]; simp
theorem lbne {a b : List UInt8} (h : a ≠ b) : (a == b) = false := by rw [beq_eq_false_iff_ne]; exact h
theorem fib_word0 {nodes : List ByteArray} {x0 : List UInt8} {W : List (List UInt8)} {M : Net} (h : netB M = true) (hn : M.nodes = nodes) {g : Fib} (hg : g ∈ M.fibers) (hW : splitC 32 (fibL nodes g) = x0 :: W) : x0 = [102, 105, 98, 101, 114] := by
  subst hn
  rw [fib_words h hg] at hW
  exact (List.cons.inj hW).1.symm
set_option maxHeartbeats 8000000 in
set_option maxRecDepth 100000 in
theorem l3Fiber_any (qn pn : Option Addr) (cn N cp : Nat) (nodes : List ByteArray) (gw cw : Nat) (W : List (List UInt8)) (w : World) (hI : Strs w qn nodes) (hn : nodes.length ≤ 1048576) (hW0 : 0 < W.length) (hcell : ∀ (k : Nat) (x : List UInt8), W[k]? = some x → w.cell? ⟨gw, k, none⟩ = some (.string (ba x))) (hsz : ∀ x ∈ W, (ba x).size ≤ 1048576) :
    Calls Tryz.prog 60 #[.agg #[.slice qn nodes.length cn, .slice pn N cp], .slice (some ⟨gw, 0, none⟩) W.length cw] w (OutLf nodes W w) := by
  obtain ⟨W2, hW2, hsz2, hf2, r1, r2⟩ := two_rows w [.slice qn nodes.length cn, .slice pn N cp] [.int .i64 0, .int .i64 0, .int .i64 0, .int .i64 0] 34 96
  obtain ⟨bN, hbN⟩ : ∃ b, b = w.heap.size := ⟨_, rfl⟩
  obtain ⟨bZ, hbZ⟩ : ∃ b, b = w.heap.size + 1 := ⟨_, rfl⟩
  rw [← hbN] at r1
  rw [← hbZ] at r2
  have hlo : w.heap.size ≤ bZ := by omega
  have HI := Lib.hid (hI.keep hf2)
  have HF2 := Lib.hid hf2
  have HRN := Lib.hid r1
  have HRZ := Lib.hid r2
  have HW2 := Lib.hid hW2
  have HBN := Lib.hid hbN
  have HBZ := Lib.hid hbZ
  have HCE := Lib.hid (fun k x hx => fkeep hf2 (hcell k x hx))
  have HSZ := Lib.hid hsz
  clear hW2 hsz2 hf2 r1 r2 hI hbN hbZ hcell hsz
  by_cases h4 : W.length = 4
  · skip
    obtain ⟨x0, x1, x2, x3, hx⟩ := four_of h4
    subst hx
    rw [show [x0, x1, x2, x3].length = 4 from rfl]
    have g0 := HCE.out 0 x0 rfl
    have g1 := HCE.out 1 x1 rfl
    have g2 := HCE.out 2 x2 rfl
    have g3 := HCE.out 3 x3 rfl
    by_cases he : x0 = [102, 105, 98, 101, 114]
    · have hd := lbeq he
      clear he h4
      have HX3 : Hid ((ba x3).size ≤ 1048576) := HSZ.out x3 (by simp)
      obtain ⟨i1, hi1⟩ : ∃ i, i = idxL nodes (ba x1) := ⟨_, rfl⟩
      obtain ⟨i2, hi2⟩ : ∃ i, i = idxL nodes (ba x2) := ⟨_, rfl⟩
      have HQ1 : Hid (∀ W, Fresh W2 W → Calls Tryz.prog 81 #[.slice qn nodes.length cn, .string (ba x1)] W fun e w' => e = .returned (.int .i64 i1) ∧ W = w') := fun W hW => by rw [hi1]; exact l2Find_any qn cn nodes (ba x1) W (HI.out.keep hW) (by omega)
      have HQ2 : Hid (∀ W, Fresh W2 W → Calls Tryz.prog 81 #[.slice qn nodes.length cn, .string (ba x2)] W fun e w' => e = .returned (.int .i64 i2) ∧ W = w') := fun W hW => by rw [hi2]; exact l2Find_any qn cn nodes (ba x2) W (HI.out.keep hW) (by omega)
      have HI1 := Lib.hid hi1
      have HI2 := Lib.hid hi2
      clear hi1 hi2
      go_enter Tryz.func60, Tryz.ntmps60
      go_upto_region 1 with fail
      rw [← HW2.out, ← HBZ.out, ← HBN.out]
      go_upto_region 3 with fail
      go_wp2_with fail
      refine (l1Read_any (ba x3) W2 HX3.out).mono ?_
      rintro e w3 ⟨rfl, hf3⟩
      rw [bs_ba]
      obtain ⟨nn, hnn⟩ : ∃ nn, nn = numF x3 := ⟨_, rfl⟩
      rw [← hnn]
      obtain ⟨n3, hn3⟩ : ∃ i, i = nn.getD 0 := ⟨_, rfl⟩
      obtain ⟨b3, hb3⟩ : ∃ k, k = nn.isSome := ⟨_, rfl⟩
      rw [← hn3, ← hb3]
      have HN3 : Hid (n3 = (numF x3).getD 0 ∧ b3 = (numF x3).isSome) := Lib.hid ⟨by rw [hn3, hnn], by rw [hb3, hnn]⟩
      have HF3 := Lib.hid hf3
      have HFW3 := Lib.hid (fstep HF2.out hf3)
      have c0 := (HRN.out.keep hf3).cell (i := 0) rfl
      have HRZ3 := Lib.hid (HRZ.out.keep hf3)
      replace g1 := fkeep hf3 g1
      replace g2 := fkeep hf3 g2
      clear hf3 hnn hn3 hb3 nn g0 g3
      go_upto_region 4 with fail
      go_cut [8] (fun z8 wx => ∃ (gb : Nat), z8 = .pointer (some ⟨gb, 0, none⟩) ∧ RowAt wx gb 96 [.int .i64 i1, .int .i64 i2, .int .i64 n3, .int .i64 0] ∧ Fresh w3 wx ∧ w3.heap.size ≤ gb)
      case first =>
        refine hd_start (n := 15) (S := fun wz => wz.cell? ⟨bN, 0, none⟩ = some (.slice qn nodes.length cn) ∧ wz.cell? ⟨gw, 1, none⟩ = some (.string (ba x1)) ∧ wz.cell? ⟨gw, 2, none⟩ = some (.string (ba x2))) (by kernel_rfl) (by kernel_rfl) ⟨fkeep (fdrew (frefl _)) c0, fkeep (fdrew (frefl _)) g1, fkeep (fdrew (frefl _)) g2⟩ (fun hHeld => ?_)
        obtain ⟨Wz, hWz⟩ : ∃ W, W = w3.drew := ⟨_, rfl⟩
        rw [← hWz] at hHeld ⊢
        have f0 : Fresh w3 Wz := by rw [hWz]; exact fdrew (frefl _)
        clear hWz
        refine hd_tk (i := 0) (v := ?_) rfl ?_ ?_
        rotate_left
        · (intro w hSw; (try dsimp only at hSw); go_simp; first | done | with_reducible rfl)
        try simp only [PU]
        refine hd_tk (i := 1) (v := ?_) rfl ?_ ?_
        rotate_left
        · (intro w hSw; (try dsimp only at hSw); go_simp; first | done | with_reducible rfl)
        try simp only [PU]
        refine hd_tk (i := 2) (v := ?_) rfl ?_ ?_
        rotate_left
        · (intro w hSw; (try dsimp only at hSw); go_simp; first | done | with_reducible rfl)
        try simp only [PU]
        refine hd_tk (i := 3) (v := ?_) rfl ?_ ?_
        rotate_left
        · (intro w hSw; (try dsimp only at hSw); go_simp; first | done | with_reducible rfl)
        try simp only [PU]
        refine hd_tk (i := 4) (v := ?_) rfl ?_ ?_
        rotate_left
        · (intro w hSw; (try dsimp only at hSw); go_simp; first | done | with_reducible rfl)
        try simp only [PU]
        refine hd_tk (i := 6) (v := ?_) rfl ?_ ?_
        rotate_left
        · (intro w hSw; (try dsimp only at hSw); go_simp; first | done | with_reducible rfl)
        try simp only [PU]
        refine hd_tk (i := 7) (v := ?_) rfl ?_ ?_
        rotate_left
        · (intro w hSw; (try dsimp only at hSw); go_simp; first | done | with_reducible rfl)
        try simp only [PU]
        refine hd_tk (i := 8) (v := ?_) rfl ?_ ?_
        rotate_left
        · (intro w hSw; (try dsimp only at hSw); go_simp; first | done | with_reducible rfl)
        try simp only [PU]
        refine hd_tk (i := 9) (v := ?_) rfl ?_ ?_
        rotate_left
        · (intro w hSw; (try dsimp only at hSw); go_simp; first | done | with_reducible rfl)
        try simp only [PU]
        refine hd_tk (i := 10) (v := ?_) rfl ?_ ?_
        rotate_left
        · (intro w hSw; (try dsimp only at hSw); go_simp; first | done | with_reducible rfl)
        try simp only [PU]
        refine hd_tk (i := 12) (v := ?_) rfl ?_ ?_
        rotate_left
        · (intro w hSw; (try dsimp only at hSw); go_simp; first | done | with_reducible rfl)
        try simp only [PU]
        refine hd_ready (rs := [5, 14]) (by kernel_rfl) (by simp) ?_
        refine hd_cons (i := 5) rfl (by kernel_rfl) (fun K hK => ?_) ?_
        · skip
          go_simp
          go_at_call 81
          refine (HQ1.out _ (fstep HF3.out f0)).mono ?_
          rintro e wk1 ⟨rfl, hww⟩
          have hb1 : Fresh Wz wk1 := by rw [← hww]; exact frefl _
          clear hww
          have fk1 := fstep f0 hb1
          go_wp2_with fail
          refine hK.out _ _ ?_ (fun hHeld => ?_)
          · exact ⟨fkeep fk1 c0, fkeep fk1 g1, fkeep fk1 g2⟩
          clear hK K
          try simp only [PU]
          refine hd_ready (rs := [11, 14]) (by kernel_rfl) (by simp) ?_
          refine hd_cons (i := 11) rfl (by kernel_rfl) (fun K hK => ?_) ?_
          · skip
            go_simp
            go_at_call 81
            refine (HQ2.out _ (fstep HF3.out fk1)).mono ?_
            rintro e wk2 ⟨rfl, hww⟩
            have hb2 : Fresh wk1 wk2 := by rw [← hww]; exact frefl _
            clear hww
            have fk2 := fstep fk1 hb2
            go_wp2_with fail
            refine hK.out _ _ ?_ (fun hHeld => ?_)
            · exact ⟨fkeep fk2 c0, fkeep fk2 g1, fkeep fk2 g2⟩
            clear hK K
            try simp only [PU]
            refine hd_tk (i := 13) (v := ?_) rfl ?_ ?_
            rotate_left
            · (intro w hSw; (try dsimp only at hSw); go_simp; first | done | with_reducible rfl)
            try simp only [PU]
            refine hd_one (i := 14) rfl (by kernel_rfl) (by kernel_rfl) (fun K hK => ?_)
            go_simp
            obtain ⟨wk3, hwa⟩ : ∃ W, W = wk2.alloc (.cells #[.int .i64 0, .int .i64 0, .int .i64 0, .int .i64 0] 96) := ⟨_, rfl⟩
            obtain ⟨gb, hgb⟩ : ∃ g, g = wk2.heap.size := ⟨_, rfl⟩
            rw [← hwa, ← hgb]
            have hba : Fresh wk2 wk3 := by rw [hwa]; exact fnew (frefl _) _
            have ra : RowAt wk3 gb 96 [.int .i64 0, .int .i64 0, .int .i64 0, .int .i64 0] := by rw [hwa, hgb]; exact RowAt.new _ _ _
            have hga : w3.heap.size ≤ gb := by rw [hgb]; exact fk2.size
            have fk3 := fstep fk2 hba
            clear hwa hgb
            clear hba
            refine hK.out _ _ ?_ (fun hHeld => ?_)
            · exact ⟨fkeep fk3 c0, fkeep fk3 g1, fkeep fk3 g2⟩
            clear hK K
            try simp only [PU]
            have zc0 := ra.cell (i := 0) rfl
            have uc0 := ra.frozen 0
            have zc1 := ra.cell (i := 1) rfl
            have uc1 := ra.frozen 1
            have zc2 := ra.cell (i := 2) rfl
            have uc2 := ra.frozen 2
            have zc3 := ra.cell (i := 3) rfl
            have uc3 := ra.frozen 3
            have fs := fset (fset (fset (fset (fk3) hga (o := 0) (.int .i64 i1)) hga (o := 1) (.int .i64 i2)) hga (o := 2) (.int .i64 n3)) hga (o := 3) (.int .i64 0)
            refine hd_done (by kernel_rfl) ?_
            clear hHeld
            simp only [List.drop_succ_cons, List.drop_zero]
            go_wp2_with fail
            go_meet
            have hrow := ((((ra.set 0 (.int .i64 i1)).set 1 (.int .i64 i2)).set 2 (.int .i64 n3)).set 3 (.int .i64 0))
            case rel => exact ⟨gb, rfl, hrow, fs, hga⟩
          · refine hd_cons (i := 14) rfl (by kernel_rfl) (fun K hK => ?_) hd_nil
            go_simp
            obtain ⟨wk4, hwa⟩ : ∃ W, W = wk1.alloc (.cells #[.int .i64 0, .int .i64 0, .int .i64 0, .int .i64 0] 96) := ⟨_, rfl⟩
            obtain ⟨gb, hgb⟩ : ∃ g, g = wk1.heap.size := ⟨_, rfl⟩
            rw [← hwa, ← hgb]
            have hba : Fresh wk1 wk4 := by rw [hwa]; exact fnew (frefl _) _
            have ra : RowAt wk4 gb 96 [.int .i64 0, .int .i64 0, .int .i64 0, .int .i64 0] := by rw [hwa, hgb]; exact RowAt.new _ _ _
            have hga : w3.heap.size ≤ gb := by rw [hgb]; exact fk1.size
            have fk4 := fstep fk1 hba
            clear hwa hgb
            clear hba
            refine hK.out _ _ ?_ (fun hHeld => ?_)
            · exact ⟨fkeep fk4 c0, fkeep fk4 g1, fkeep fk4 g2⟩
            clear hK K
            try simp only [PU]
            refine hd_one (i := 11) rfl (by kernel_rfl) (by kernel_rfl) (fun K hK => ?_)
            go_simp
            go_at_call 81
            refine (HQ2.out _ (fstep HF3.out fk4)).mono ?_
            rintro e wk5 ⟨rfl, hww⟩
            have hb5 : Fresh wk4 wk5 := by rw [← hww]; exact frefl _
            clear hww
            have fk5 := fstep fk4 hb5
            replace ra := ra.keep hb5
            go_wp2_with fail
            refine hK.out _ _ ?_ (fun hHeld => ?_)
            · exact ⟨fkeep fk5 c0, fkeep fk5 g1, fkeep fk5 g2⟩
            clear hK K
            try simp only [PU]
            refine hd_tk (i := 13) (v := ?_) rfl ?_ ?_
            rotate_left
            · (intro w hSw; (try dsimp only at hSw); go_simp; first | done | with_reducible rfl)
            try simp only [PU]
            have zc0 := ra.cell (i := 0) rfl
            have uc0 := ra.frozen 0
            have zc1 := ra.cell (i := 1) rfl
            have uc1 := ra.frozen 1
            have zc2 := ra.cell (i := 2) rfl
            have uc2 := ra.frozen 2
            have zc3 := ra.cell (i := 3) rfl
            have uc3 := ra.frozen 3
            have fs := fset (fset (fset (fset (fk5) hga (o := 0) (.int .i64 i1)) hga (o := 1) (.int .i64 i2)) hga (o := 2) (.int .i64 n3)) hga (o := 3) (.int .i64 0)
            refine hd_done (by kernel_rfl) ?_
            clear hHeld
            simp only [List.drop_succ_cons, List.drop_zero]
            go_wp2_with fail
            go_meet
            have hrow := ((((ra.set 0 (.int .i64 i1)).set 1 (.int .i64 i2)).set 2 (.int .i64 n3)).set 3 (.int .i64 0))
            case rel => exact ⟨gb, rfl, hrow, fs, hga⟩
        · refine hd_cons (i := 14) rfl (by kernel_rfl) (fun K hK => ?_) hd_nil
          go_simp
          obtain ⟨wk6, hwa⟩ : ∃ W, W = Wz.alloc (.cells #[.int .i64 0, .int .i64 0, .int .i64 0, .int .i64 0] 96) := ⟨_, rfl⟩
          obtain ⟨gb, hgb⟩ : ∃ g, g = Wz.heap.size := ⟨_, rfl⟩
          rw [← hwa, ← hgb]
          have hba : Fresh Wz wk6 := by rw [hwa]; exact fnew (frefl _) _
          have ra : RowAt wk6 gb 96 [.int .i64 0, .int .i64 0, .int .i64 0, .int .i64 0] := by rw [hwa, hgb]; exact RowAt.new _ _ _
          have hga : w3.heap.size ≤ gb := by rw [hgb]; exact f0.size
          have fk6 := fstep f0 hba
          clear hwa hgb
          clear hba
          refine hK.out _ _ ?_ (fun hHeld => ?_)
          · exact ⟨fkeep fk6 c0, fkeep fk6 g1, fkeep fk6 g2⟩
          clear hK K
          try simp only [PU]
          refine hd_one (i := 5) rfl (by kernel_rfl) (by kernel_rfl) (fun K hK => ?_)
          go_simp
          go_at_call 81
          refine (HQ1.out _ (fstep HF3.out fk6)).mono ?_
          rintro e wk7 ⟨rfl, hww⟩
          have hb7 : Fresh wk6 wk7 := by rw [← hww]; exact frefl _
          clear hww
          have fk7 := fstep fk6 hb7
          replace ra := ra.keep hb7
          go_wp2_with fail
          refine hK.out _ _ ?_ (fun hHeld => ?_)
          · exact ⟨fkeep fk7 c0, fkeep fk7 g1, fkeep fk7 g2⟩
          clear hK K
          try simp only [PU]
          refine hd_one (i := 11) rfl (by kernel_rfl) (by kernel_rfl) (fun K hK => ?_)
          go_simp
          go_at_call 81
          refine (HQ2.out _ (fstep HF3.out fk7)).mono ?_
          rintro e wk8 ⟨rfl, hww⟩
          have hb8 : Fresh wk7 wk8 := by rw [← hww]; exact frefl _
          clear hww
          have fk8 := fstep fk7 hb8
          replace ra := ra.keep hb8
          go_wp2_with fail
          refine hK.out _ _ ?_ (fun hHeld => ?_)
          · exact ⟨fkeep fk8 c0, fkeep fk8 g1, fkeep fk8 g2⟩
          clear hK K
          try simp only [PU]
          refine hd_tk (i := 13) (v := ?_) rfl ?_ ?_
          rotate_left
          · (intro w hSw; (try dsimp only at hSw); go_simp; first | done | with_reducible rfl)
          try simp only [PU]
          have zc0 := ra.cell (i := 0) rfl
          have uc0 := ra.frozen 0
          have zc1 := ra.cell (i := 1) rfl
          have uc1 := ra.frozen 1
          have zc2 := ra.cell (i := 2) rfl
          have uc2 := ra.frozen 2
          have zc3 := ra.cell (i := 3) rfl
          have uc3 := ra.frozen 3
          have fs := fset (fset (fset (fset (fk8) hga (o := 0) (.int .i64 i1)) hga (o := 1) (.int .i64 i2)) hga (o := 2) (.int .i64 n3)) hga (o := 3) (.int .i64 0)
          refine hd_done (by kernel_rfl) ?_
          clear hHeld
          simp only [List.drop_succ_cons, List.drop_zero]
          go_wp2_with fail
          go_meet
          have hrow := ((((ra.set 0 (.int .i64 i1)).set 1 (.int .i64 i2)).set 2 (.int .i64 n3)).set 3 (.int .i64 0))
          case rel => exact ⟨gb, rfl, hrow, fs, hga⟩
      case rest =>
        obtain ⟨gb, rfl, hrow, hf5, hga⟩ := hcut
        have HRF := Lib.hid hrow
        have HF5 := Lib.hid (fstep HFW3.out hf5)
        have HZ5 := Lib.hid (HRZ3.out.keep hf5)
        have hzg : bZ < gb := Nat.lt_of_lt_of_le HRZ3.out.lt hga
        have hlg : w.heap.size ≤ gb := by omega
        clear hrow hf5 c0 g1 g2 HQ1 HQ2
        have l6 : (((4 : Nat) : Int) == 6) = false := by decide
        have HALL : Hid (∀ M : Net, netB M = true → M.nodes = nodes → ∀ g ∈ M.fibers, splitC 32 (fibL nodes g) = [x0, x1, x2, x3] → b3 = true ∧ g = ⟨i1, i2, n3, 0⟩) := fun M h1 h2 g hg h3 => by
          obtain ⟨e1, e2, e3, e4, e5, e6⟩ := fib_four h3 h1 h2 hg rfl
          refine ⟨by rw [HN3.out.2, e5]; rfl, ?_⟩
          rw [HI1.out, HI2.out, e1, e2, HN3.out.1, e5, ← e6]
          rfl
        have d0 := HRF.out.cell (i := 0) rfl
        have d1 := HRF.out.cell (i := 1) rfl
        have d2 := HRF.out.cell (i := 2) rfl
        have d3 := HRF.out.cell (i := 3) rfl
        have z0 := HZ5.out.cell (i := 0) rfl
        have y0 := HZ5.out.frozen 0
        have z1 := HZ5.out.cell (i := 1) rfl
        have y1 := HZ5.out.frozen 1
        have z2 := HZ5.out.cell (i := 2) rfl
        have y2 := HZ5.out.frozen 2
        have z3 := HZ5.out.cell (i := 3) rfl
        have y3 := HZ5.out.frozen 3
        have hfin := ((((HZ5.out.set 0 (.int .i64 i1)).set 1 (.int .i64 i2)).set 2 (.int .i64 n3)).set 3 (.int .i64 0))
        have k0 := hfin.cell (i := 0) rfl
        have k1 := hfin.cell (i := 1) rfl
        have k2 := hfin.cell (i := 2) rfl
        have k3 := hfin.cell (i := 3) rfl
        have HFF := Lib.hid (fset (fset (fset (fset HF5.out hlo (o := 0) (.int .i64 i1)) hlo (o := 1) (.int .i64 i2)) hlo (o := 2) (.int .i64 n3)) hlo (o := 3) (.int .i64 0))
        clear hfin
        go_wp2
        refine bodyPost_ret (v := .tuple #[.agg #[.int .i64 i1, .int .i64 i2, .int .i64 n3, .int .i64 0], .bool b3]) (by simp [results, Tryz.results60, go_sem, k0, k1, k2, k3]) rfl ?_
        exact ⟨_, _, _, _, _, rfl, HFF.out, HALL.out⟩
    · have hd := lbne he
      have HNO : Hid (∀ M : Net, netB M = true → M.nodes = nodes → ∀ g ∈ M.fibers, splitC 32 (fibL nodes g) = [x0, x1, x2, x3] → False) := fun M h1 h2 g hg h3 => he (fib_word0 h1 h2 hg h3)
      clear he h4
      go_enter Tryz.func60, Tryz.ntmps60
      go_upto_region 1 with fail
      rw [← HW2.out, ← HBZ.out, ← HBN.out]
      have z0 := HRZ.out.cell (i := 0) rfl
      have y0 := HRZ.out.frozen 0
      have z1 := HRZ.out.cell (i := 1) rfl
      have y1 := HRZ.out.frozen 1
      have z2 := HRZ.out.cell (i := 2) rfl
      have y2 := HRZ.out.frozen 2
      have z3 := HRZ.out.cell (i := 3) rfl
      have y3 := HRZ.out.frozen 3
      have hfin := ((((HRZ.out.set 0 (.int .i64 0)).set 1 (.int .i64 0)).set 2 (.int .i64 0)).set 3 (.int .i64 0))
      have k0 := hfin.cell (i := 0) rfl
      have k1 := hfin.cell (i := 1) rfl
      have k2 := hfin.cell (i := 2) rfl
      have k3 := hfin.cell (i := 3) rfl
      have HFF := Lib.hid (fset (fset (fset (fset HF2.out hlo (o := 0) (.int .i64 0)) hlo (o := 1) (.int .i64 0)) hlo (o := 2) (.int .i64 0)) hlo (o := 3) (.int .i64 0))
      clear hfin
      go_wp2
      refine bodyPost_ret (v := .tuple #[.agg #[.int .i64 0, .int .i64 0, .int .i64 0, .int .i64 0], .bool false]) (by simp [results, Tryz.results60, go_sem, k0, k1, k2, k3]) rfl ?_
      exact ⟨_, _, _, _, _, rfl, HFF.out, fun M h1 h2 g hg h3 => (HNO.out M h1 h2 g hg h3).elim⟩
  · by_cases h6 : W.length = 6
    · skip
      obtain ⟨x0, x1, x2, x3, x4, x5, hx⟩ := six_of h6
      subst hx
      rw [show [x0, x1, x2, x3, x4, x5].length = 6 from rfl]
      have g0 := HCE.out 0 x0 rfl
      have g1 := HCE.out 1 x1 rfl
      have g2 := HCE.out 2 x2 rfl
      have g3 := HCE.out 3 x3 rfl
      have g4 := HCE.out 4 x4 rfl
      have g5 := HCE.out 5 x5 rfl
      by_cases he : x0 = [102, 105, 98, 101, 114]
      · have hd := lbeq he
        clear he h6
        have HX3 : Hid ((ba x3).size ≤ 1048576) := HSZ.out x3 (by simp)
        obtain ⟨i1, hi1⟩ : ∃ i, i = idxL nodes (ba x1) := ⟨_, rfl⟩
        obtain ⟨i2, hi2⟩ : ∃ i, i = idxL nodes (ba x2) := ⟨_, rfl⟩
        have HQ1 : Hid (∀ W, Fresh W2 W → Calls Tryz.prog 81 #[.slice qn nodes.length cn, .string (ba x1)] W fun e w' => e = .returned (.int .i64 i1) ∧ W = w') := fun W hW => by rw [hi1]; exact l2Find_any qn cn nodes (ba x1) W (HI.out.keep hW) (by omega)
        have HQ2 : Hid (∀ W, Fresh W2 W → Calls Tryz.prog 81 #[.slice qn nodes.length cn, .string (ba x2)] W fun e w' => e = .returned (.int .i64 i2) ∧ W = w') := fun W hW => by rw [hi2]; exact l2Find_any qn cn nodes (ba x2) W (HI.out.keep hW) (by omega)
        have HI1 := Lib.hid hi1
        have HI2 := Lib.hid hi2
        clear hi1 hi2
        go_enter Tryz.func60, Tryz.ntmps60
        go_upto_region 1 with fail
        rw [← HW2.out, ← HBZ.out, ← HBN.out]
        go_upto_region 3 with fail
        go_wp2_with fail
        refine (l1Read_any (ba x3) W2 HX3.out).mono ?_
        rintro e w3 ⟨rfl, hf3⟩
        rw [bs_ba]
        obtain ⟨nn, hnn⟩ : ∃ nn, nn = numF x3 := ⟨_, rfl⟩
        rw [← hnn]
        obtain ⟨n3, hn3⟩ : ∃ i, i = nn.getD 0 := ⟨_, rfl⟩
        obtain ⟨b3, hb3⟩ : ∃ k, k = nn.isSome := ⟨_, rfl⟩
        rw [← hn3, ← hb3]
        have HN3 : Hid (n3 = (numF x3).getD 0 ∧ b3 = (numF x3).isSome) := Lib.hid ⟨by rw [hn3, hnn], by rw [hb3, hnn]⟩
        have HF3 := Lib.hid hf3
        have HFW3 := Lib.hid (fstep HF2.out hf3)
        have c0 := (HRN.out.keep hf3).cell (i := 0) rfl
        have HRZ3 := Lib.hid (HRZ.out.keep hf3)
        replace g1 := fkeep hf3 g1
        replace g2 := fkeep hf3 g2
        replace g4 := fkeep hf3 g4
        replace g5 := fkeep hf3 g5
        clear hf3 hnn hn3 hb3 nn g0 g3
        go_upto_region 4 with fail
        go_cut [8] (fun z8 wx => ∃ (gb : Nat), z8 = .pointer (some ⟨gb, 0, none⟩) ∧ RowAt wx gb 96 [.int .i64 i1, .int .i64 i2, .int .i64 n3, .int .i64 0] ∧ Fresh w3 wx ∧ w3.heap.size ≤ gb)
        case first =>
          refine hd_start (n := 15) (S := fun wz => wz.cell? ⟨bN, 0, none⟩ = some (.slice qn nodes.length cn) ∧ wz.cell? ⟨gw, 1, none⟩ = some (.string (ba x1)) ∧ wz.cell? ⟨gw, 2, none⟩ = some (.string (ba x2))) (by kernel_rfl) (by kernel_rfl) ⟨fkeep (fdrew (frefl _)) c0, fkeep (fdrew (frefl _)) g1, fkeep (fdrew (frefl _)) g2⟩ (fun hHeld => ?_)
          obtain ⟨Wz, hWz⟩ : ∃ W, W = w3.drew := ⟨_, rfl⟩
          rw [← hWz] at hHeld ⊢
          have f0 : Fresh w3 Wz := by rw [hWz]; exact fdrew (frefl _)
          clear hWz
          refine hd_tk (i := 0) (v := ?_) rfl ?_ ?_
          rotate_left
          · (intro w hSw; (try dsimp only at hSw); go_simp; first | done | with_reducible rfl)
          try simp only [PU]
          refine hd_tk (i := 1) (v := ?_) rfl ?_ ?_
          rotate_left
          · (intro w hSw; (try dsimp only at hSw); go_simp; first | done | with_reducible rfl)
          try simp only [PU]
          refine hd_tk (i := 2) (v := ?_) rfl ?_ ?_
          rotate_left
          · (intro w hSw; (try dsimp only at hSw); go_simp; first | done | with_reducible rfl)
          try simp only [PU]
          refine hd_tk (i := 3) (v := ?_) rfl ?_ ?_
          rotate_left
          · (intro w hSw; (try dsimp only at hSw); go_simp; first | done | with_reducible rfl)
          try simp only [PU]
          refine hd_tk (i := 4) (v := ?_) rfl ?_ ?_
          rotate_left
          · (intro w hSw; (try dsimp only at hSw); go_simp; first | done | with_reducible rfl)
          try simp only [PU]
          refine hd_tk (i := 6) (v := ?_) rfl ?_ ?_
          rotate_left
          · (intro w hSw; (try dsimp only at hSw); go_simp; first | done | with_reducible rfl)
          try simp only [PU]
          refine hd_tk (i := 7) (v := ?_) rfl ?_ ?_
          rotate_left
          · (intro w hSw; (try dsimp only at hSw); go_simp; first | done | with_reducible rfl)
          try simp only [PU]
          refine hd_tk (i := 8) (v := ?_) rfl ?_ ?_
          rotate_left
          · (intro w hSw; (try dsimp only at hSw); go_simp; first | done | with_reducible rfl)
          try simp only [PU]
          refine hd_tk (i := 9) (v := ?_) rfl ?_ ?_
          rotate_left
          · (intro w hSw; (try dsimp only at hSw); go_simp; first | done | with_reducible rfl)
          try simp only [PU]
          refine hd_tk (i := 10) (v := ?_) rfl ?_ ?_
          rotate_left
          · (intro w hSw; (try dsimp only at hSw); go_simp; first | done | with_reducible rfl)
          try simp only [PU]
          refine hd_tk (i := 12) (v := ?_) rfl ?_ ?_
          rotate_left
          · (intro w hSw; (try dsimp only at hSw); go_simp; first | done | with_reducible rfl)
          try simp only [PU]
          refine hd_ready (rs := [5, 14]) (by kernel_rfl) (by simp) ?_
          refine hd_cons (i := 5) rfl (by kernel_rfl) (fun K hK => ?_) ?_
          · skip
            go_simp
            go_at_call 81
            refine (HQ1.out _ (fstep HF3.out f0)).mono ?_
            rintro e wk1 ⟨rfl, hww⟩
            have hb1 : Fresh Wz wk1 := by rw [← hww]; exact frefl _
            clear hww
            have fk1 := fstep f0 hb1
            go_wp2_with fail
            refine hK.out _ _ ?_ (fun hHeld => ?_)
            · exact ⟨fkeep fk1 c0, fkeep fk1 g1, fkeep fk1 g2⟩
            clear hK K
            try simp only [PU]
            refine hd_ready (rs := [11, 14]) (by kernel_rfl) (by simp) ?_
            refine hd_cons (i := 11) rfl (by kernel_rfl) (fun K hK => ?_) ?_
            · skip
              go_simp
              go_at_call 81
              refine (HQ2.out _ (fstep HF3.out fk1)).mono ?_
              rintro e wk2 ⟨rfl, hww⟩
              have hb2 : Fresh wk1 wk2 := by rw [← hww]; exact frefl _
              clear hww
              have fk2 := fstep fk1 hb2
              go_wp2_with fail
              refine hK.out _ _ ?_ (fun hHeld => ?_)
              · exact ⟨fkeep fk2 c0, fkeep fk2 g1, fkeep fk2 g2⟩
              clear hK K
              try simp only [PU]
              refine hd_tk (i := 13) (v := ?_) rfl ?_ ?_
              rotate_left
              · (intro w hSw; (try dsimp only at hSw); go_simp; first | done | with_reducible rfl)
              try simp only [PU]
              refine hd_one (i := 14) rfl (by kernel_rfl) (by kernel_rfl) (fun K hK => ?_)
              go_simp
              obtain ⟨wk3, hwa⟩ : ∃ W, W = wk2.alloc (.cells #[.int .i64 0, .int .i64 0, .int .i64 0, .int .i64 0] 96) := ⟨_, rfl⟩
              obtain ⟨gb, hgb⟩ : ∃ g, g = wk2.heap.size := ⟨_, rfl⟩
              rw [← hwa, ← hgb]
              have hba : Fresh wk2 wk3 := by rw [hwa]; exact fnew (frefl _) _
              have ra : RowAt wk3 gb 96 [.int .i64 0, .int .i64 0, .int .i64 0, .int .i64 0] := by rw [hwa, hgb]; exact RowAt.new _ _ _
              have hga : w3.heap.size ≤ gb := by rw [hgb]; exact fk2.size
              have fk3 := fstep fk2 hba
              clear hwa hgb
              clear hba
              refine hK.out _ _ ?_ (fun hHeld => ?_)
              · exact ⟨fkeep fk3 c0, fkeep fk3 g1, fkeep fk3 g2⟩
              clear hK K
              try simp only [PU]
              have zc0 := ra.cell (i := 0) rfl
              have uc0 := ra.frozen 0
              have zc1 := ra.cell (i := 1) rfl
              have uc1 := ra.frozen 1
              have zc2 := ra.cell (i := 2) rfl
              have uc2 := ra.frozen 2
              have zc3 := ra.cell (i := 3) rfl
              have uc3 := ra.frozen 3
              have fs := fset (fset (fset (fset (fk3) hga (o := 0) (.int .i64 i1)) hga (o := 1) (.int .i64 i2)) hga (o := 2) (.int .i64 n3)) hga (o := 3) (.int .i64 0)
              refine hd_done (by kernel_rfl) ?_
              clear hHeld
              simp only [List.drop_succ_cons, List.drop_zero]
              go_wp2_with fail
              go_meet
              have hrow := ((((ra.set 0 (.int .i64 i1)).set 1 (.int .i64 i2)).set 2 (.int .i64 n3)).set 3 (.int .i64 0))
              case rel => exact ⟨gb, rfl, hrow, fs, hga⟩
            · refine hd_cons (i := 14) rfl (by kernel_rfl) (fun K hK => ?_) hd_nil
              go_simp
              obtain ⟨wk4, hwa⟩ : ∃ W, W = wk1.alloc (.cells #[.int .i64 0, .int .i64 0, .int .i64 0, .int .i64 0] 96) := ⟨_, rfl⟩
              obtain ⟨gb, hgb⟩ : ∃ g, g = wk1.heap.size := ⟨_, rfl⟩
              rw [← hwa, ← hgb]
              have hba : Fresh wk1 wk4 := by rw [hwa]; exact fnew (frefl _) _
              have ra : RowAt wk4 gb 96 [.int .i64 0, .int .i64 0, .int .i64 0, .int .i64 0] := by rw [hwa, hgb]; exact RowAt.new _ _ _
              have hga : w3.heap.size ≤ gb := by rw [hgb]; exact fk1.size
              have fk4 := fstep fk1 hba
              clear hwa hgb
              clear hba
              refine hK.out _ _ ?_ (fun hHeld => ?_)
              · exact ⟨fkeep fk4 c0, fkeep fk4 g1, fkeep fk4 g2⟩
              clear hK K
              try simp only [PU]
              refine hd_one (i := 11) rfl (by kernel_rfl) (by kernel_rfl) (fun K hK => ?_)
              go_simp
              go_at_call 81
              refine (HQ2.out _ (fstep HF3.out fk4)).mono ?_
              rintro e wk5 ⟨rfl, hww⟩
              have hb5 : Fresh wk4 wk5 := by rw [← hww]; exact frefl _
              clear hww
              have fk5 := fstep fk4 hb5
              replace ra := ra.keep hb5
              go_wp2_with fail
              refine hK.out _ _ ?_ (fun hHeld => ?_)
              · exact ⟨fkeep fk5 c0, fkeep fk5 g1, fkeep fk5 g2⟩
              clear hK K
              try simp only [PU]
              refine hd_tk (i := 13) (v := ?_) rfl ?_ ?_
              rotate_left
              · (intro w hSw; (try dsimp only at hSw); go_simp; first | done | with_reducible rfl)
              try simp only [PU]
              have zc0 := ra.cell (i := 0) rfl
              have uc0 := ra.frozen 0
              have zc1 := ra.cell (i := 1) rfl
              have uc1 := ra.frozen 1
              have zc2 := ra.cell (i := 2) rfl
              have uc2 := ra.frozen 2
              have zc3 := ra.cell (i := 3) rfl
              have uc3 := ra.frozen 3
              have fs := fset (fset (fset (fset (fk5) hga (o := 0) (.int .i64 i1)) hga (o := 1) (.int .i64 i2)) hga (o := 2) (.int .i64 n3)) hga (o := 3) (.int .i64 0)
              refine hd_done (by kernel_rfl) ?_
              clear hHeld
              simp only [List.drop_succ_cons, List.drop_zero]
              go_wp2_with fail
              go_meet
              have hrow := ((((ra.set 0 (.int .i64 i1)).set 1 (.int .i64 i2)).set 2 (.int .i64 n3)).set 3 (.int .i64 0))
              case rel => exact ⟨gb, rfl, hrow, fs, hga⟩
          · refine hd_cons (i := 14) rfl (by kernel_rfl) (fun K hK => ?_) hd_nil
            go_simp
            obtain ⟨wk6, hwa⟩ : ∃ W, W = Wz.alloc (.cells #[.int .i64 0, .int .i64 0, .int .i64 0, .int .i64 0] 96) := ⟨_, rfl⟩
            obtain ⟨gb, hgb⟩ : ∃ g, g = Wz.heap.size := ⟨_, rfl⟩
            rw [← hwa, ← hgb]
            have hba : Fresh Wz wk6 := by rw [hwa]; exact fnew (frefl _) _
            have ra : RowAt wk6 gb 96 [.int .i64 0, .int .i64 0, .int .i64 0, .int .i64 0] := by rw [hwa, hgb]; exact RowAt.new _ _ _
            have hga : w3.heap.size ≤ gb := by rw [hgb]; exact f0.size
            have fk6 := fstep f0 hba
            clear hwa hgb
            clear hba
            refine hK.out _ _ ?_ (fun hHeld => ?_)
            · exact ⟨fkeep fk6 c0, fkeep fk6 g1, fkeep fk6 g2⟩
            clear hK K
            try simp only [PU]
            refine hd_one (i := 5) rfl (by kernel_rfl) (by kernel_rfl) (fun K hK => ?_)
            go_simp
            go_at_call 81
            refine (HQ1.out _ (fstep HF3.out fk6)).mono ?_
            rintro e wk7 ⟨rfl, hww⟩
            have hb7 : Fresh wk6 wk7 := by rw [← hww]; exact frefl _
            clear hww
            have fk7 := fstep fk6 hb7
            replace ra := ra.keep hb7
            go_wp2_with fail
            refine hK.out _ _ ?_ (fun hHeld => ?_)
            · exact ⟨fkeep fk7 c0, fkeep fk7 g1, fkeep fk7 g2⟩
            clear hK K
            try simp only [PU]
            refine hd_one (i := 11) rfl (by kernel_rfl) (by kernel_rfl) (fun K hK => ?_)
            go_simp
            go_at_call 81
            refine (HQ2.out _ (fstep HF3.out fk7)).mono ?_
            rintro e wk8 ⟨rfl, hww⟩
            have hb8 : Fresh wk7 wk8 := by rw [← hww]; exact frefl _
            clear hww
            have fk8 := fstep fk7 hb8
            replace ra := ra.keep hb8
            go_wp2_with fail
            refine hK.out _ _ ?_ (fun hHeld => ?_)
            · exact ⟨fkeep fk8 c0, fkeep fk8 g1, fkeep fk8 g2⟩
            clear hK K
            try simp only [PU]
            refine hd_tk (i := 13) (v := ?_) rfl ?_ ?_
            rotate_left
            · (intro w hSw; (try dsimp only at hSw); go_simp; first | done | with_reducible rfl)
            try simp only [PU]
            have zc0 := ra.cell (i := 0) rfl
            have uc0 := ra.frozen 0
            have zc1 := ra.cell (i := 1) rfl
            have uc1 := ra.frozen 1
            have zc2 := ra.cell (i := 2) rfl
            have uc2 := ra.frozen 2
            have zc3 := ra.cell (i := 3) rfl
            have uc3 := ra.frozen 3
            have fs := fset (fset (fset (fset (fk8) hga (o := 0) (.int .i64 i1)) hga (o := 1) (.int .i64 i2)) hga (o := 2) (.int .i64 n3)) hga (o := 3) (.int .i64 0)
            refine hd_done (by kernel_rfl) ?_
            clear hHeld
            simp only [List.drop_succ_cons, List.drop_zero]
            go_wp2_with fail
            go_meet
            have hrow := ((((ra.set 0 (.int .i64 i1)).set 1 (.int .i64 i2)).set 2 (.int .i64 n3)).set 3 (.int .i64 0))
            case rel => exact ⟨gb, rfl, hrow, fs, hga⟩
        case rest =>
          obtain ⟨gb, rfl, hrow, hf5, hga⟩ := hcut
          have HRF := Lib.hid hrow
          have HF5 := Lib.hid (fstep HFW3.out hf5)
          have HZ5 := Lib.hid (HRZ3.out.keep hf5)
          have hzg : bZ < gb := Nat.lt_of_lt_of_le HRZ3.out.lt hga
          have hlg : w.heap.size ≤ gb := by omega
          replace g4 := fkeep hf5 g4
          replace g5 := fkeep hf5 g5
          clear hrow hf5 c0 g1 g2 HQ1 HQ2
          have l6 : (((6 : Nat) : Int) == 6) = true := by decide
          have HX5 : Hid ((ba x5).size ≤ 1048576) := HSZ.out x5 (by simp)
          go_upto_region 6 with fail
          go_wp2_with fail
          refine (l1Read_any (ba x5) _ HX5.out).mono ?_
          rintro e w6 ⟨rfl, hf6⟩
          rw [bs_ba]
          obtain ⟨nn, hnn⟩ : ∃ nn, nn = numF x5 := ⟨_, rfl⟩
          rw [← hnn]
          obtain ⟨n5, hn5⟩ : ∃ i, i = nn.getD 0 := ⟨_, rfl⟩
          obtain ⟨b5, hb5⟩ : ∃ k, k = nn.isSome := ⟨_, rfl⟩
          rw [← hn5, ← hb5]
          have HALL : Hid (∀ M : Net, netB M = true → M.nodes = nodes → ∀ g ∈ M.fibers, splitC 32 (fibL nodes g) = [x0, x1, x2, x3, x4, x5] → b3 = true ∧ b5 = true ∧ x4 = [114, 105, 115, 107] ∧ g = ⟨i1, i2, n3, n5⟩) := fun M h1 h2 g hg h3 => by
            obtain ⟨e1, e2, e3, e4, e5, e6, _, e8⟩ := fib_six h3 h1 h2 hg rfl
            refine ⟨by rw [HN3.out.2, e5]; rfl, by rw [hb5, hnn, e6]; rfl, e8, ?_⟩
            rw [HI1.out, HI2.out, e1, e2, HN3.out.1, e5, hn5, hnn, e6]
            rfl
          replace g4 := fkeep hf6 g4
          replace HRF := Lib.hid (HRF.out.keep hf6)
          replace HZ5 := Lib.hid (HZ5.out.keep hf6)
          replace HF5 := Lib.hid (fstep HF5.out hf6)
          have v3 := HRF.out.cell (i := 3) rfl
          have u3 := HRF.out.frozen 3
          obtain ⟨WA, hWA⟩ : ∃ W, W = w6.setCell ⟨gb, 3, none⟩ (.int .i64 n5) := ⟨_, rfl⟩
          have HFA : Hid (Fresh w WA) := by show Fresh _ _; rw [hWA]; exact fset HF5.out hlg (o := 3) (.int .i64 n5)
          have HRA : Hid (RowAt WA gb 96 [.int .i64 i1, .int .i64 i2, .int .i64 n3, .int .i64 n5]) := by show RowAt _ _ _ _; rw [hWA]; exact HRF.out.set 3 (.int .i64 n5)
          have HZA : Hid (RowAt WA bZ 96 [.int .i64 0, .int .i64 0, .int .i64 0, .int .i64 0]) := by show RowAt _ _ _ _; rw [hWA]; exact HZ5.out.setOther (by omega) _
          have HWA := Lib.hid hWA
          clear hWA hf6 hnn hn5 hb5 nn g5
          cases b3 with
          | false =>
            go_upto_region 9 with fail
            rw [← HWA.out]
            clear v3 u3 g4
            have d0 := HRA.out.cell (i := 0) rfl
            have d1 := HRA.out.cell (i := 1) rfl
            have d2 := HRA.out.cell (i := 2) rfl
            have d3 := HRA.out.cell (i := 3) rfl
            have z0 := HZA.out.cell (i := 0) rfl
            have y0 := HZA.out.frozen 0
            have z1 := HZA.out.cell (i := 1) rfl
            have y1 := HZA.out.frozen 1
            have z2 := HZA.out.cell (i := 2) rfl
            have y2 := HZA.out.frozen 2
            have z3 := HZA.out.cell (i := 3) rfl
            have y3 := HZA.out.frozen 3
            have hfin := ((((HZA.out.set 0 (.int .i64 i1)).set 1 (.int .i64 i2)).set 2 (.int .i64 n3)).set 3 (.int .i64 n5))
            have k0 := hfin.cell (i := 0) rfl
            have k1 := hfin.cell (i := 1) rfl
            have k2 := hfin.cell (i := 2) rfl
            have k3 := hfin.cell (i := 3) rfl
            have HFF := Lib.hid (fset (fset (fset (fset HFA.out hlo (o := 0) (.int .i64 i1)) hlo (o := 1) (.int .i64 i2)) hlo (o := 2) (.int .i64 n3)) hlo (o := 3) (.int .i64 n5))
            clear hfin
            go_wp2
            refine bodyPost_ret (v := .tuple #[.agg #[.int .i64 i1, .int .i64 i2, .int .i64 n3, .int .i64 n5], .bool false]) (by simp [results, Tryz.results60, go_sem, k0, k1, k2, k3]) rfl ?_
            exact ⟨_, _, _, _, _, rfl, HFF.out, fun M h1 h2 g hg h3 => by obtain ⟨e1, e2, e3, e4⟩ := HALL.out M h1 h2 g hg h3; first | exact ⟨rfl, e4⟩ | (cases e1; done) | (cases e2; done) | exact (HNE.out e3).elim⟩
          | true =>
            cases b5 with
            | false =>
              go_upto_region 9 with fail
              rw [← HWA.out]
              clear v3 u3 g4
              have d0 := HRA.out.cell (i := 0) rfl
              have d1 := HRA.out.cell (i := 1) rfl
              have d2 := HRA.out.cell (i := 2) rfl
              have d3 := HRA.out.cell (i := 3) rfl
              have z0 := HZA.out.cell (i := 0) rfl
              have y0 := HZA.out.frozen 0
              have z1 := HZA.out.cell (i := 1) rfl
              have y1 := HZA.out.frozen 1
              have z2 := HZA.out.cell (i := 2) rfl
              have y2 := HZA.out.frozen 2
              have z3 := HZA.out.cell (i := 3) rfl
              have y3 := HZA.out.frozen 3
              have hfin := ((((HZA.out.set 0 (.int .i64 i1)).set 1 (.int .i64 i2)).set 2 (.int .i64 n3)).set 3 (.int .i64 n5))
              have k0 := hfin.cell (i := 0) rfl
              have k1 := hfin.cell (i := 1) rfl
              have k2 := hfin.cell (i := 2) rfl
              have k3 := hfin.cell (i := 3) rfl
              have HFF := Lib.hid (fset (fset (fset (fset HFA.out hlo (o := 0) (.int .i64 i1)) hlo (o := 1) (.int .i64 i2)) hlo (o := 2) (.int .i64 n3)) hlo (o := 3) (.int .i64 n5))
              clear hfin
              go_wp2
              refine bodyPost_ret (v := .tuple #[.agg #[.int .i64 i1, .int .i64 i2, .int .i64 n3, .int .i64 n5], .bool false]) (by simp [results, Tryz.results60, go_sem, k0, k1, k2, k3]) rfl ?_
              exact ⟨_, _, _, _, _, rfl, HFF.out, fun M h1 h2 g hg h3 => by obtain ⟨e1, e2, e3, e4⟩ := HALL.out M h1 h2 g hg h3; first | exact ⟨rfl, e4⟩ | (cases e1; done) | (cases e2; done) | exact (HNE.out e3).elim⟩
            | true =>
              by_cases hr : x4 = [114, 105, 115, 107]
              · have hd4 := lbeq hr
                clear hr
                go_upto_region 9 with fail
                rw [← HWA.out]
                clear v3 u3 g4
                have d0 := HRA.out.cell (i := 0) rfl
                have d1 := HRA.out.cell (i := 1) rfl
                have d2 := HRA.out.cell (i := 2) rfl
                have d3 := HRA.out.cell (i := 3) rfl
                have z0 := HZA.out.cell (i := 0) rfl
                have y0 := HZA.out.frozen 0
                have z1 := HZA.out.cell (i := 1) rfl
                have y1 := HZA.out.frozen 1
                have z2 := HZA.out.cell (i := 2) rfl
                have y2 := HZA.out.frozen 2
                have z3 := HZA.out.cell (i := 3) rfl
                have y3 := HZA.out.frozen 3
                have hfin := ((((HZA.out.set 0 (.int .i64 i1)).set 1 (.int .i64 i2)).set 2 (.int .i64 n3)).set 3 (.int .i64 n5))
                have k0 := hfin.cell (i := 0) rfl
                have k1 := hfin.cell (i := 1) rfl
                have k2 := hfin.cell (i := 2) rfl
                have k3 := hfin.cell (i := 3) rfl
                have HFF := Lib.hid (fset (fset (fset (fset HFA.out hlo (o := 0) (.int .i64 i1)) hlo (o := 1) (.int .i64 i2)) hlo (o := 2) (.int .i64 n3)) hlo (o := 3) (.int .i64 n5))
                clear hfin
                go_wp2
                refine bodyPost_ret (v := .tuple #[.agg #[.int .i64 i1, .int .i64 i2, .int .i64 n3, .int .i64 n5], .bool true]) (by simp [results, Tryz.results60, go_sem, k0, k1, k2, k3]) rfl ?_
                exact ⟨_, _, _, _, _, rfl, HFF.out, fun M h1 h2 g hg h3 => by obtain ⟨e1, e2, e3, e4⟩ := HALL.out M h1 h2 g hg h3; first | exact ⟨rfl, e4⟩ | (cases e1; done) | (cases e2; done) | exact (HNE.out e3).elim⟩
              · have hd4 := lbne hr
                have HNE := Lib.hid hr
                clear hr
                go_upto_region 9 with fail
                rw [← HWA.out]
                clear v3 u3 g4
                have d0 := HRA.out.cell (i := 0) rfl
                have d1 := HRA.out.cell (i := 1) rfl
                have d2 := HRA.out.cell (i := 2) rfl
                have d3 := HRA.out.cell (i := 3) rfl
                have z0 := HZA.out.cell (i := 0) rfl
                have y0 := HZA.out.frozen 0
                have z1 := HZA.out.cell (i := 1) rfl
                have y1 := HZA.out.frozen 1
                have z2 := HZA.out.cell (i := 2) rfl
                have y2 := HZA.out.frozen 2
                have z3 := HZA.out.cell (i := 3) rfl
                have y3 := HZA.out.frozen 3
                have hfin := ((((HZA.out.set 0 (.int .i64 i1)).set 1 (.int .i64 i2)).set 2 (.int .i64 n3)).set 3 (.int .i64 n5))
                have k0 := hfin.cell (i := 0) rfl
                have k1 := hfin.cell (i := 1) rfl
                have k2 := hfin.cell (i := 2) rfl
                have k3 := hfin.cell (i := 3) rfl
                have HFF := Lib.hid (fset (fset (fset (fset HFA.out hlo (o := 0) (.int .i64 i1)) hlo (o := 1) (.int .i64 i2)) hlo (o := 2) (.int .i64 n3)) hlo (o := 3) (.int .i64 n5))
                clear hfin
                go_wp2
                refine bodyPost_ret (v := .tuple #[.agg #[.int .i64 i1, .int .i64 i2, .int .i64 n3, .int .i64 n5], .bool false]) (by simp [results, Tryz.results60, go_sem, k0, k1, k2, k3]) rfl ?_
                exact ⟨_, _, _, _, _, rfl, HFF.out, fun M h1 h2 g hg h3 => by obtain ⟨e1, e2, e3, e4⟩ := HALL.out M h1 h2 g hg h3; first | exact ⟨rfl, e4⟩ | (cases e1; done) | (cases e2; done) | exact (HNE.out e3).elim⟩
      · have hd := lbne he
        have HNO : Hid (∀ M : Net, netB M = true → M.nodes = nodes → ∀ g ∈ M.fibers, splitC 32 (fibL nodes g) = [x0, x1, x2, x3, x4, x5] → False) := fun M h1 h2 g hg h3 => he (fib_word0 h1 h2 hg h3)
        clear he h6
        go_enter Tryz.func60, Tryz.ntmps60
        go_upto_region 1 with fail
        rw [← HW2.out, ← HBZ.out, ← HBN.out]
        have z0 := HRZ.out.cell (i := 0) rfl
        have y0 := HRZ.out.frozen 0
        have z1 := HRZ.out.cell (i := 1) rfl
        have y1 := HRZ.out.frozen 1
        have z2 := HRZ.out.cell (i := 2) rfl
        have y2 := HRZ.out.frozen 2
        have z3 := HRZ.out.cell (i := 3) rfl
        have y3 := HRZ.out.frozen 3
        have hfin := ((((HRZ.out.set 0 (.int .i64 0)).set 1 (.int .i64 0)).set 2 (.int .i64 0)).set 3 (.int .i64 0))
        have k0 := hfin.cell (i := 0) rfl
        have k1 := hfin.cell (i := 1) rfl
        have k2 := hfin.cell (i := 2) rfl
        have k3 := hfin.cell (i := 3) rfl
        have HFF := Lib.hid (fset (fset (fset (fset HF2.out hlo (o := 0) (.int .i64 0)) hlo (o := 1) (.int .i64 0)) hlo (o := 2) (.int .i64 0)) hlo (o := 3) (.int .i64 0))
        clear hfin
        go_wp2
        refine bodyPost_ret (v := .tuple #[.agg #[.int .i64 0, .int .i64 0, .int .i64 0, .int .i64 0], .bool false]) (by simp [results, Tryz.results60, go_sem, k0, k1, k2, k3]) rfl ?_
        exact ⟨_, _, _, _, _, rfl, HFF.out, fun M h1 h2 g hg h3 => (HNO.out M h1 h2 g hg h3).elim⟩
    · have l4 : ((W.length : Int) != 4) = true := by rw [bne_iff_ne]; omega
      have l6 : ((W.length : Int) != 6) = true := by rw [bne_iff_ne]; omega
      have HNO : Hid (∀ M : Net, netB M = true → M.nodes = nodes → ∀ g ∈ M.fibers, splitC 32 (fibL nodes g) = W → False) := fun M h1 h2 g hg h3 => by
        rcases fib_len46 h1 h2 hg rfl with h | h
        · rw [h3] at h; exact h4 h
        · rw [h3] at h; exact h6 h
      go_enter Tryz.func60, Tryz.ntmps60
      go_upto_region 1 with fail
      rw [← HW2.out, ← HBZ.out, ← HBN.out]
      have z0 := HRZ.out.cell (i := 0) rfl
      have y0 := HRZ.out.frozen 0
      have z1 := HRZ.out.cell (i := 1) rfl
      have y1 := HRZ.out.frozen 1
      have z2 := HRZ.out.cell (i := 2) rfl
      have y2 := HRZ.out.frozen 2
      have z3 := HRZ.out.cell (i := 3) rfl
      have y3 := HRZ.out.frozen 3
      have hfin := ((((HRZ.out.set 0 (.int .i64 0)).set 1 (.int .i64 0)).set 2 (.int .i64 0)).set 3 (.int .i64 0))
      have k0 := hfin.cell (i := 0) rfl
      have k1 := hfin.cell (i := 1) rfl
      have k2 := hfin.cell (i := 2) rfl
      have k3 := hfin.cell (i := 3) rfl
      have HFF := Lib.hid (fset (fset (fset (fset HF2.out hlo (o := 0) (.int .i64 0)) hlo (o := 1) (.int .i64 0)) hlo (o := 2) (.int .i64 0)) hlo (o := 3) (.int .i64 0))
      clear hfin
      go_wp2
      refine bodyPost_ret (v := .tuple #[.agg #[.int .i64 0, .int .i64 0, .int .i64 0, .int .i64 0], .bool false]) (by simp [results, Tryz.results60, go_sem, k0, k1, k2, k3]) rfl ?_
      exact ⟨_, _, _, _, _, rfl, HFF.out, fun M h1 h2 g hg h3 => (HNO.out M h1 h2 g hg h3).elim⟩
end Go.Proofs.YtjhaoonacjebpaaGreatDoor
