/- Contracts: a fiber laid at its place, the reference's draws. (Printed by gen_l2p.py.) -/
import Derived.Test.YtlapicgeokjpjaaSp
namespace Go.Proofs.Ytlapicgeokjpjaa
open Go.RowKit Go.PlainAid

theorem partE_a {W : World} {base : Nat} {r : Option Addr} {l : List Fib} (k : Nat) (h : Own W base 59 r (l.flatMap fibC)) : Cells W r ((l.take k).flatMap fibC) := by
  rcases h with ⟨rfl, h0⟩ | ⟨g, sp, rfl, _, hW⟩
  · left
    have h1 := congrArg List.length h0
    rw [flat_len fibC 4 (fun _ => rfl)] at h1
    have h2 : l = [] := List.eq_nil_of_length_eq_zero (by simp at h1; omega)
    rw [h2]; simp
  · refine Or.inr ⟨g, 0, rfl, fun j u hj => ?_⟩
    have hlt : j < ((l.take k).flatMap fibC).length := (List.getElem?_eq_some_iff.1 hj).1
    have e : l.flatMap fibC = (l.take k).flatMap fibC ++ (l.drop k).flatMap fibC := by rw [← List.flatMap_append, List.take_append_drop]
    rw [Nat.zero_add]
    refine hW.cell ?_
    have : ((l.take k).flatMap fibC).length ≤ (l.flatMap fibC).length := by rw [e, List.length_append]; omega
    rw [List.getElem?_append_left (by omega), e, List.getElem?_append_left hlt]; exact hj
theorem partE_b {W : World} {base g : Nat} {l : List Fib} {cap k : Nat} (hk : k ≤ l.length) (hc : l.length ≤ cap) (h : Own W base 59 (some ⟨g, 0, none⟩) (l.flatMap fibC)) : Cells W (if cap = k then (some (⟨g, 0, none⟩ : Addr)) else some ⟨g, k * 4, none⟩) ((l.drop k).flatMap fibC) := by
  have hd5 : ((l.drop k).flatMap fibC).length = (l.length - k) * 4 := by rw [flat_len fibC 4 (fun _ => rfl)]; simp
  by_cases hck : cap = k
  · left
    exact List.eq_nil_of_length_eq_zero (by rw [hd5]; omega)
  · rw [if_neg hck]
    rcases h with ⟨h0, _⟩ | ⟨g', sp, h1, _, hW⟩
    · cases h0
    · cases h1
      refine Or.inr ⟨g, k * 4, rfl, fun j u hj => ?_⟩
      have hlt : j < ((l.drop k).flatMap fibC).length := (List.getElem?_eq_some_iff.1 hj).1
      have e : l.flatMap fibC = (l.take k).flatMap fibC ++ (l.drop k).flatMap fibC := by rw [← List.flatMap_append, List.take_append_drop]
      have hl5 : (l.flatMap fibC).length = l.length * 4 := flat_len fibC 4 (fun _ => rfl) l
      have ht6 : ((l.take k).flatMap fibC).length = k * 4 := by rw [flat_len fibC 4 (fun _ => rfl)]; simp; omega
      refine hW.cell ?_
      rw [List.getElem?_append_left (by omega), e, List.getElem?_append_right (by omega), ht6, show k * 4 + j - k * 4 = j by omega]; exact hj
def FbS (f : Fib) : Prop := Ab f.a ∧ Ab f.b ∧ Ab f.len ∧ Ab f.risk
/-- A row of the call's own with one fiber more. -/
def OutPut (N : Nat) (w : World) (e : Ending) (w' : World) : Prop := ∃ (q : Option Addr) (c : Nat) (l : List Fib), e = .returned (.slice q l.length c) ∧ l.length = N + 1 ∧ (∀ g ∈ l, FbS g) ∧ w'.ownsRow w.heap.size 59 4 (.slice q l.length c) l.length (l.flatMap fibC) ∧ Fresh w w'
set_option maxHeartbeats 8000000 in
set_option maxRecDepth 100000 in
theorem l2Put_any (base : Nat) (p : Option Addr) (c : Nat) (l : List Fib) (x y z u : Int) (w : World) (hl : w.ownsRow base 59 4 (.slice p l.length c) l.length (l.flatMap fibC)) (h16 : l.length ≤ 64) (hlb : ∀ g ∈ l, FbS g) (hfb : FbS ⟨x, y, z, u⟩) :
    Calls Try.prog 50 #[.slice p l.length c, .agg #[.int .i64 x, .int .i64 y, .int .i64 z, .int .i64 u]] w (OutPut l.length w) := by
  obtain ⟨p', c', hpc, hown, hlc, hcm⟩ := owns_cap hl
  cases hpc
  have hFi : Fibs w p l := hown.cells
  obtain ⟨W2, hW2⟩ : ∃ W, W = w.alloc (.cells #[.int .i64 x, .int .i64 y, .int .i64 z, .int .i64 u] 59) := ⟨_, rfl⟩
  have hf2 : Fresh w W2 := by rw [hW2]; exact fnew (frefl _) _
  have hr2' : RowAt W2 w.heap.size 59 [.int .i64 x, .int .i64 y, .int .i64 z, .int .i64 u] := by rw [hW2]; exact RowAt.new _ _ _
  have HF2 := Lib.hid hf2
  have HR2 := Lib.hid hr2'
  have HFI := Lib.hid (hFi.keep hf2)
  have HOW2 := Lib.hid (hown.keep hf2)
  have HL := Lib.hid hl
  have HLB := Lib.hid hlb
  have HFB := Lib.hid hfb
  have HW2 := Lib.hid hW2
  clear hf2 hr2' hFi hown hl hlb hfb hW2
  go_enter Try.func50, Try.ntmps50
  go_wp2
  rw [← HW2.out]
  go_loopw [5] (fun i wr => ∃ k : Nat, k ≤ l.length ∧ i = .int .i64 k ∧ Fresh W2 wr) (fun i _ => l.length - (intOf i).toNat)
  case atStart => exact ⟨0, Nat.zero_le _, rfl, frefl _⟩
  case round =>
    obtain ⟨k, hj, rfl, hf⟩ := hrel
    have HF := Lib.hid hf
    have h0 := fun xa : After wr => akeep ((HR2.out.keep hf).cell (i := 0) rfl) xa
    have h1 := fun xa : After wr => akeep ((HR2.out.keep hf).cell (i := 1) rfl) xa
    have h2 := fun xa : After wr => akeep ((HR2.out.keep hf).cell (i := 2) rfl) xa
    have h3 := fun xa : After wr => akeep ((HR2.out.keep hf).cell (i := 3) rfl) xa
    by_cases hlt : k < l.length
    · have hltz : (k : Int) < (l.length : Int) := by omega
      have hltd : decide ((k : Int) < (l.length : Int)) = true := decide_eq_true hltz
      obtain ⟨bd, od, a1, a2, a3, a4, hpe, hx, d0, d1, d2, d3⟩ := (HFI.out.keep hf).at hlt
      have e0 := fun xa : After wr => akeep d0 xa
      have e1 := fun xa : After wr => akeep d1 xa
      have e2 := fun xa : After wr => akeep d2 xa
      have e3 := fun xa : After wr => akeep d3 xa
      obtain ⟨g1, g2, g3, g4⟩ := HLB.out _ (List.mem_of_getElem? hx)
      obtain ⟨f1, f2, f3, f4⟩ := HFB.out
      obtain ⟨cc, hcc⟩ : ∃ v, v = before ⟨a1, a2, a3, a4⟩ ⟨x, y, z, u⟩ := ⟨_, rfl⟩
      have HBC : Hid (∀ W, Calls Try.prog 57 #[.agg #[.int .i64 a1, .int .i64 a2, .int .i64 a3, .int .i64 a4], .agg #[.int .i64 x, .int .i64 y, .int .i64 z, .int .i64 u]] W fun e w' => e = .returned (.int .i64 cc) ∧ Fresh W w') := fun W => by rw [hcc]; exact l2Before_any ⟨a1, a2, a3, a4⟩ ⟨x, y, z, u⟩ W g1 g2 g3 g4 f1 f2 f3 f4
      clear hf hx d0 d1 d2 d3 g1 g2 g3 g4 f1 f2 f3 f4 hcc
      by_cases hneg : cc ≤ 0
      · have hd : decide (cc ≤ 0) = true := decide_eq_true hneg
        subst hpe
        go_wp2
        refine wp_region_after (by kernel_rfl) (by kernel_rfl) ?_
        repeat (go_big_quiet_step ((go_at_call 57; exact after_call (HBC.out _))))
        refine wpQuiet_nil ?_
        rintro _ ⟨xa, rfl⟩
        clear h0 h1 h2 h3 e0 e1 e2 e3
        go_wp2
        go_roundw
        case rel => exact ⟨k + 1, by omega, by go_num, fstep HF.out xa.h⟩
        case measure => simp [intOf]; omega
      · have hd : decide (cc ≤ 0) = false := decide_eq_false hneg
        subst hpe
        go_wp2
        refine wp_region_after (by kernel_rfl) (by kernel_rfl) ?_
        repeat (go_big_quiet_step ((go_at_call 57; exact after_call (HBC.out _))))
        refine wpQuiet_nil ?_
        rintro _ ⟨xa, rfl⟩
        clear h0 h1 h2 h3 e0 e1 e2 e3
        go_wp2
        obtain ⟨W6, hW6⟩ : ∃ W, W = xa.w' := ⟨_, rfl⟩
        rw [← hW6]
        have hf6 : Fresh W2 W6 := by rw [hW6]; exact fstep HF.out xa.h
        clear hW6
        have hfw6 : Fresh w W6 := fstep HF2.out hf6
        have HOWN := Lib.hid (HOW2.out.keep hf6)
        have hr0 := (HR2.out.keep hf6).cell (i := 0) rfl
        have hr1 := (HR2.out.keep hf6).cell (i := 1) rfl
        have hr2 := (HR2.out.keep hf6).cell (i := 2) rfl
        have hr3 := (HR2.out.keep hf6).cell (i := 3) rfl
        have HTK : Hid (((l.take k).flatMap fibC).length = k * 4) := by show _ = _; rw [flat_len fibC 4 (fun _ => rfl)]; simp; omega
        have HDK : Hid (((l.drop k).flatMap fibC).length = (l.length - k) * 4) := by show _ = _; rw [flat_len fibC 4 (fun _ => rfl)]; simp
        have HPA : Hid (∀ W : World, Own W base 59 (some (⟨bd, od, none⟩ : Addr)) (l.flatMap fibC) → Cells W (some (⟨bd, od, none⟩ : Addr)) ((l.take k).flatMap fibC)) := fun W hW => partE_a k hW
        have n1 : k ≤ 1048576 := by omega
        have n2 : l.length - k ≤ 1048576 := by omega
        have b1 : k ≤ c := by omega
        have b2 : k ≤ l.length := hj
        have b3 : (k : Int) ≤ (l.length : Int) := by omega
        have b4 : (k : Int) ≤ (c : Int) := by omega
        have HPOST : Hid (∀ (q3 : Option Addr) (c3 : Nat) (w3 : World), w3.ownsRow W6.heap.size 59 4 (.slice q3 (k + 1 + (l.length - k)) c3) (k + 1 + (l.length - k)) ((l.take k).flatMap fibC ++ [.int .i64 x, .int .i64 y, .int .i64 z, .int .i64 u] ++ (l.drop k).flatMap fibC) → Fresh W6 w3 → OutPut l.length w (.returned (.slice q3 (k + 1 + (l.length - k)) c3)) w3) := fun q3 c3 w3 h1 h2 => by
          have hlen : (l.take k ++ (⟨x, y, z, u⟩ : Fib) :: l.drop k).length = k + 1 + (l.length - k) := by simp; omega
          refine ⟨q3, c3, l.take k ++ (⟨x, y, z, u⟩ : Fib) :: l.drop k, by rw [hlen], by rw [hlen]; omega, fun g hg => ?_, ?_, fstep hfw6 h2⟩
          · rcases mem_insR hg with rfl | hg
            · exact HFB.out
            · exact HLB.out g hg
          · rw [hlen, List.flatMap_append, List.flatMap_cons, ← List.append_assoc]
            exact owns_mono h1 hfw6.size
        have hsm : ∃ A : Option Addr, (∀ W : World, Own W base 59 (some (⟨bd, od, none⟩ : Addr)) (l.flatMap fibC) → Cells W A ((l.drop k).flatMap fibC)) ∧ (((some (⟨bd, od, none⟩ : Addr)) = none ∧ A = none ∧ l.length = 0 ∧ c = 0) ∨ ∃ g, (some (⟨bd, od, none⟩ : Addr)) = some ⟨g, 0, none⟩ ∧ A = if c = k then (some (⟨g, 0, none⟩ : Addr)) else some ⟨g, k * 4, none⟩) := by
          rcases HL.out.2 with ⟨e1, e2⟩ | ⟨g, c2, cur, e1, _⟩
          · simp only [Value.slice.injEq] at e1
            obtain ⟨h1', -, h3'⟩ := e1
            refine ⟨none, fun W hW => Or.inl ?_, Or.inl ⟨h1', rfl, e2, h3'⟩⟩
            have : l = [] := List.eq_nil_of_length_eq_zero e2
            rw [this]; simp
          · simp only [Value.slice.injEq] at e1
            obtain ⟨h1', -, h3'⟩ := e1
            exact ⟨_, fun W hW => partE_b b2 hlc (by rw [h1'] at hW; exact hW), Or.inr ⟨g, h1', rfl⟩⟩
        obtain ⟨A, hPB, hcase⟩ := hsm
        have HPB := Lib.hid hPB
        clear hf6 hfw6 hPB
        rcases hcase with ⟨h1', -, -, -⟩ | ⟨g, h1', hA⟩
        · cases h1'
        · cases h1'
          have hA' := hA.symm
          clear hA
          refine hd_start (n := 12) (S := fun w' => w'.cell? ⟨w.heap.size, 0, none⟩ = some (.int .i64 x) ∧ w'.cell? ⟨w.heap.size, 1, none⟩ = some (.int .i64 y) ∧ w'.cell? ⟨w.heap.size, 2, none⟩ = some (.int .i64 z) ∧ w'.cell? ⟨w.heap.size, 3, none⟩ = some (.int .i64 u)) (by kernel_rfl) (by kernel_rfl) ⟨fkeep (fdrew (frefl _)) hr0, fkeep (fdrew (frefl _)) hr1, fkeep (fdrew (frefl _)) hr2, fkeep (fdrew (frefl _)) hr3⟩ (fun hHeld => ?_)
          obtain ⟨c0, hc0⟩ : ∃ W, W = W6.drew := ⟨_, rfl⟩
          rw [← hc0] at hHeld ⊢
          have fc0 : Fresh W6 c0 := by rw [hc0]; exact fdrew (frefl _)
          clear hc0
          refine hd_tk (i := 1) (v := ?_) rfl ?_ ?_
          rotate_left
          · (intro w hSw; (try dsimp only at hSw); go_simp; first | done | with_reducible rfl)
          try simp only [PU]
          refine hd_tk (i := 2) (v := ?_) rfl ?_ ?_
          rotate_left
          · (intro w hSw; (try dsimp only at hSw); go_simp; first | done | with_reducible rfl)
          try simp only [PU]
          refine hd_tk (i := 3) (v := ?_) rfl ?_ ?_
          rotate_left
          · (intro w hSw; (try dsimp only at hSw); go_simp; first | done | with_reducible rfl)
          try simp only [PU]
          refine hd_tk (i := 5) (v := ?_) rfl ?_ ?_
          rotate_left
          · (intro w hSw; (try dsimp only at hSw); go_simp; first | done | with_reducible rfl)
          try simp only [PU]
          refine hd_tk (i := 8) (v := ?_) rfl ?_ ?_
          rotate_left
          · (intro w hSw; (try dsimp only at hSw); go_simp; first | done | with_reducible rfl)
          try simp only [PU]
          refine hd_tk (i := 9) (v := ?_) rfl ?_ ?_
          rotate_left
          · (intro w hSw; (try dsimp only at hSw); go_simp; first | done | with_reducible rfl)
          try simp only [PU]
          refine hd_tk (i := 10) (v := ?_) rfl ?_ ?_
          rotate_left
          · (intro w hSw; (try dsimp only at hSw); go_simp; first | done | with_reducible rfl)
          try simp only [PU]
          refine hd_ready (rs := [0, 6]) (by kernel_rfl) (by simp) ?_
          refine hd_cons (i := 0) rfl (by kernel_rfl) (fun K hK => ?_) ?_
          · skip
            go_simp
            obtain ⟨wa, hwa⟩ : ∃ W, W = c0.alloc (.cells #[] 59) := ⟨_, rfl⟩
            rw [← hwa]
            have fa : Fresh W6 wa := by rw [hwa]; exact fnew fc0 _
            have ra : RowAt wa c0.heap.size 59 [] := by rw [hwa]; exact RowAt.new _ _ _
            have ga : W6.heap.size ≤ c0.heap.size := fc0.size
            clear hwa
            refine hK.out _ _ ?_ (fun hHeld => ?_)
            · exact ⟨fkeep fa hr0, fkeep fa hr1, fkeep fa hr2, fkeep fa hr3⟩
            clear hK K
            try simp only [PU]
            refine hd_ready (rs := [4, 6]) (by kernel_rfl) (by simp) ?_
            refine hd_cons (i := 4) rfl (by kernel_rfl) (fun K hK => ?_) ?_
            · skip
              refine step_app_mm (some 25) rfl Try.underlying25 infoFib rfl (by decide) (by decide) W6 (.slice (some ⟨c0.heap.size, 0, none⟩) 0 0) 0 [] _ k c ((l.take k).flatMap fibC) rfl _ _ rfl rfl (ownsRow_zero ra ga) rfl (HPA.out _ (HOWN.out.keep fa)) HTK.out (one_fibs _) (by omega) n1 fa ?_
              rw [Nat.zero_add, List.nil_append]
              intro q1 c1 w1 own1 f1 hk1
              refine hK.out _ _ ?_ (fun hHeld => ?_)
              · exact ⟨fkeep f1 hr0, fkeep f1 hr1, fkeep f1 hr2, fkeep f1 hr3⟩
              clear hK K
              try simp only [PU]
              refine hd_ready (rs := [6]) (by kernel_rfl) (by simp) ?_
              refine hd_cons (i := 6) rfl (by kernel_rfl) (fun K hK => ?_) ?_
              · skip
                go_simp
                obtain ⟨wb, hwb⟩ : ∃ W, W = w1.alloc (.cells #[.int .i64 x, .int .i64 y, .int .i64 z, .int .i64 u] 59) := ⟨_, rfl⟩
                rw [← hwb]
                have fb : Fresh W6 wb := by rw [hwb]; exact fnew f1 _
                have rb : RowAt wb w1.heap.size 59 [.int .i64 x, .int .i64 y, .int .i64 z, .int .i64 u] := by rw [hwb]; exact RowAt.new _ _ _
                have own1b := ownsRow_keep own1 (show Fresh w1 wb by rw [hwb]; exact fnew (frefl _) _)
                clear hwb
                refine hK.out _ _ ?_ (fun hHeld => ?_)
                · exact ⟨fkeep fb hr0, fkeep fb hr1, fkeep fb hr2, fkeep fb hr3⟩
                clear hK K
                try simp only [PU]
                refine hd_ready (rs := [7]) (by kernel_rfl) (by simp) ?_
                refine hd_cons (i := 7) rfl (by kernel_rfl) (fun K hK => ?_) ?_
                · skip
                  refine step_app_mm (some 28) rfl Try.underlying25 infoFib rfl (by decide) (by decide) W6 _ k ((l.take k).flatMap fibC) (some ⟨w1.heap.size, 0, none⟩) 1 1 [.int .i64 x, .int .i64 y, .int .i64 z, .int .i64 u] rfl _ _ rfl rfl own1b rfl rb.cells rfl (by intro a ha; simp at ha; rcases ha with rfl | rfl | rfl | rfl <;> rfl) n1 (by decide) fb ?_
                  intro q2 c2 w2 own2 f2 hk2
                  refine hK.out _ _ ?_ (fun hHeld => ?_)
                  · exact ⟨fkeep f2 hr0, fkeep f2 hr1, fkeep f2 hr2, fkeep f2 hr3⟩
                  clear hK K
                  try simp only [PU]
                  refine hd_ready (rs := [11]) (by kernel_rfl) (by simp) ?_
                  refine hd_cons (i := 11) rfl (by kernel_rfl) (fun K hK => ?_) ?_
                  · skip
                    refine step_app_mm (some 32) rfl Try.underlying25 infoFib rfl (by decide) (by decide) W6 (.slice q2 (k + 1) c2) (k + 1) ((l.take k).flatMap fibC ++ [.int .i64 x, .int .i64 y, .int .i64 z, .int .i64 u]) _ (l.length - k) (c - k) ((l.drop k).flatMap fibC) rfl _ _ rfl rfl own2 rfl (HPB.out _ (HOWN.out.keep f2)) HDK.out (one_fibs _) (by omega) n2 f2 ?_
                    intro q3 c3 w3 own3 f3 hk3
                    refine hK.out _ _ ?_ (fun hHeld => ?_)
                    · exact ⟨fkeep f3 hr0, fkeep f3 hr1, fkeep f3 hr2, fkeep f3 hr3⟩
                    clear hK K
                    try simp only [PU]
                    refine hd_done (by kernel_rfl) ?_
                    clear hHeld
                    simp only [List.drop_succ_cons, List.drop_zero]
                    have HOWN3 := Lib.hid own3
                    have HF3 := Lib.hid f3
                    clear own3 f3 hk3 own2 f2 hk2 own1 f1 hk1
                    go_wp2
                    go_ret
                    exact HPOST.out q3 c3 w3 HOWN3.out HF3.out
                  exact hd_nil
                exact hd_nil
              exact hd_nil
            refine hd_cons (i := 6) rfl (by kernel_rfl) (fun K hK => ?_) ?_
            · skip
              go_simp
              obtain ⟨wb, hwb⟩ : ∃ W, W = wa.alloc (.cells #[.int .i64 x, .int .i64 y, .int .i64 z, .int .i64 u] 59) := ⟨_, rfl⟩
              rw [← hwb]
              have fb : Fresh W6 wb := by rw [hwb]; exact fnew fa _
              have rb : RowAt wb wa.heap.size 59 [.int .i64 x, .int .i64 y, .int .i64 z, .int .i64 u] := by rw [hwb]; exact RowAt.new _ _ _
              have ra2 : RowAt wb c0.heap.size 59 [] := by rw [hwb]; exact ra.alloc _
              have nab : wa.heap.size ≠ c0.heap.size := by have := ra.lt; omega
              clear hwb
              refine hK.out _ _ ?_ (fun hHeld => ?_)
              · exact ⟨fkeep fb hr0, fkeep fb hr1, fkeep fb hr2, fkeep fb hr3⟩
              clear hK K
              try simp only [PU]
              refine hd_ready (rs := [4]) (by kernel_rfl) (by simp) ?_
              refine hd_cons (i := 4) rfl (by kernel_rfl) (fun K hK => ?_) ?_
              · skip
                refine step_app_mm (some 25) rfl Try.underlying25 infoFib rfl (by decide) (by decide) W6 (.slice (some ⟨c0.heap.size, 0, none⟩) 0 0) 0 [] _ k c ((l.take k).flatMap fibC) rfl _ _ rfl rfl (ownsRow_zero ra2 ga) rfl (HPA.out _ (HOWN.out.keep fb)) HTK.out (one_fibs _) (by omega) n1 fb ?_
                rw [Nat.zero_add, List.nil_append]
                intro q1 c1 w1 own1 f1 hk1
                have rb1 := hk1 _ _ _ rb (Or.inr (by simp only [Value.ownBlock, ne_eq, Option.some.injEq]; exact nab.symm))
                refine hK.out _ _ ?_ (fun hHeld => ?_)
                · exact ⟨fkeep f1 hr0, fkeep f1 hr1, fkeep f1 hr2, fkeep f1 hr3⟩
                clear hK K
                try simp only [PU]
                refine hd_ready (rs := [7]) (by kernel_rfl) (by simp) ?_
                refine hd_cons (i := 7) rfl (by kernel_rfl) (fun K hK => ?_) ?_
                · skip
                  refine step_app_mm (some 28) rfl Try.underlying25 infoFib rfl (by decide) (by decide) W6 _ k ((l.take k).flatMap fibC) (some ⟨wa.heap.size, 0, none⟩) 1 1 [.int .i64 x, .int .i64 y, .int .i64 z, .int .i64 u] rfl _ _ rfl rfl own1 rfl rb1.cells rfl (by intro a ha; simp at ha; rcases ha with rfl | rfl | rfl | rfl <;> rfl) n1 (by decide) f1 ?_
                  intro q2 c2 w2 own2 f2 hk2
                  refine hK.out _ _ ?_ (fun hHeld => ?_)
                  · exact ⟨fkeep f2 hr0, fkeep f2 hr1, fkeep f2 hr2, fkeep f2 hr3⟩
                  clear hK K
                  try simp only [PU]
                  refine hd_ready (rs := [11]) (by kernel_rfl) (by simp) ?_
                  refine hd_cons (i := 11) rfl (by kernel_rfl) (fun K hK => ?_) ?_
                  · skip
                    refine step_app_mm (some 32) rfl Try.underlying25 infoFib rfl (by decide) (by decide) W6 (.slice q2 (k + 1) c2) (k + 1) ((l.take k).flatMap fibC ++ [.int .i64 x, .int .i64 y, .int .i64 z, .int .i64 u]) _ (l.length - k) (c - k) ((l.drop k).flatMap fibC) rfl _ _ rfl rfl own2 rfl (HPB.out _ (HOWN.out.keep f2)) HDK.out (one_fibs _) (by omega) n2 f2 ?_
                    intro q3 c3 w3 own3 f3 hk3
                    refine hK.out _ _ ?_ (fun hHeld => ?_)
                    · exact ⟨fkeep f3 hr0, fkeep f3 hr1, fkeep f3 hr2, fkeep f3 hr3⟩
                    clear hK K
                    try simp only [PU]
                    refine hd_done (by kernel_rfl) ?_
                    clear hHeld
                    simp only [List.drop_succ_cons, List.drop_zero]
                    have HOWN3 := Lib.hid own3
                    have HF3 := Lib.hid f3
                    clear own3 f3 hk3 own2 f2 hk2 own1 f1 hk1
                    go_wp2
                    go_ret
                    exact HPOST.out q3 c3 w3 HOWN3.out HF3.out
                  exact hd_nil
                exact hd_nil
              exact hd_nil
            exact hd_nil
          refine hd_cons (i := 6) rfl (by kernel_rfl) (fun K hK => ?_) ?_
          · skip
            go_simp
            obtain ⟨wb, hwb⟩ : ∃ W, W = c0.alloc (.cells #[.int .i64 x, .int .i64 y, .int .i64 z, .int .i64 u] 59) := ⟨_, rfl⟩
            rw [← hwb]
            have fb : Fresh W6 wb := by rw [hwb]; exact fnew fc0 _
            have rb : RowAt wb c0.heap.size 59 [.int .i64 x, .int .i64 y, .int .i64 z, .int .i64 u] := by rw [hwb]; exact RowAt.new _ _ _
            clear hwb
            refine hK.out _ _ ?_ (fun hHeld => ?_)
            · exact ⟨fkeep fb hr0, fkeep fb hr1, fkeep fb hr2, fkeep fb hr3⟩
            clear hK K
            try simp only [PU]
            refine hd_ready (rs := [0]) (by kernel_rfl) (by simp) ?_
            refine hd_cons (i := 0) rfl (by kernel_rfl) (fun K hK => ?_) ?_
            · skip
              go_simp
              obtain ⟨wa, hwa⟩ : ∃ W, W = wb.alloc (.cells #[] 59) := ⟨_, rfl⟩
              rw [← hwa]
              have fa : Fresh W6 wa := by rw [hwa]; exact fnew fb _
              have ra : RowAt wa wb.heap.size 59 [] := by rw [hwa]; exact RowAt.new _ _ _
              have rb2 : RowAt wa c0.heap.size 59 [.int .i64 x, .int .i64 y, .int .i64 z, .int .i64 u] := by rw [hwa]; exact rb.alloc _
              have ga : W6.heap.size ≤ wb.heap.size := fb.size
              clear hwa
              refine hK.out _ _ ?_ (fun hHeld => ?_)
              · exact ⟨fkeep fa hr0, fkeep fa hr1, fkeep fa hr2, fkeep fa hr3⟩
              clear hK K
              try simp only [PU]
              refine hd_ready (rs := [4]) (by kernel_rfl) (by simp) ?_
              refine hd_cons (i := 4) rfl (by kernel_rfl) (fun K hK => ?_) ?_
              · skip
                refine step_app_mm (some 25) rfl Try.underlying25 infoFib rfl (by decide) (by decide) W6 (.slice (some ⟨wb.heap.size, 0, none⟩) 0 0) 0 [] _ k c ((l.take k).flatMap fibC) rfl _ _ rfl rfl (ownsRow_zero ra ga) rfl (HPA.out _ (HOWN.out.keep fa)) HTK.out (one_fibs _) (by omega) n1 fa ?_
                rw [Nat.zero_add, List.nil_append]
                intro q1 c1 w1 own1 f1 hk1
                have rb1 := hk1 _ _ _ rb2 (Or.inr (by simp only [Value.ownBlock, ne_eq, Option.some.injEq]; have := rb.lt; omega))
                refine hK.out _ _ ?_ (fun hHeld => ?_)
                · exact ⟨fkeep f1 hr0, fkeep f1 hr1, fkeep f1 hr2, fkeep f1 hr3⟩
                clear hK K
                try simp only [PU]
                refine hd_ready (rs := [7]) (by kernel_rfl) (by simp) ?_
                refine hd_cons (i := 7) rfl (by kernel_rfl) (fun K hK => ?_) ?_
                · skip
                  refine step_app_mm (some 28) rfl Try.underlying25 infoFib rfl (by decide) (by decide) W6 _ k ((l.take k).flatMap fibC) (some ⟨c0.heap.size, 0, none⟩) 1 1 [.int .i64 x, .int .i64 y, .int .i64 z, .int .i64 u] rfl _ _ rfl rfl own1 rfl rb1.cells rfl (by intro a ha; simp at ha; rcases ha with rfl | rfl | rfl | rfl <;> rfl) n1 (by decide) f1 ?_
                  intro q2 c2 w2 own2 f2 hk2
                  refine hK.out _ _ ?_ (fun hHeld => ?_)
                  · exact ⟨fkeep f2 hr0, fkeep f2 hr1, fkeep f2 hr2, fkeep f2 hr3⟩
                  clear hK K
                  try simp only [PU]
                  refine hd_ready (rs := [11]) (by kernel_rfl) (by simp) ?_
                  refine hd_cons (i := 11) rfl (by kernel_rfl) (fun K hK => ?_) ?_
                  · skip
                    refine step_app_mm (some 32) rfl Try.underlying25 infoFib rfl (by decide) (by decide) W6 (.slice q2 (k + 1) c2) (k + 1) ((l.take k).flatMap fibC ++ [.int .i64 x, .int .i64 y, .int .i64 z, .int .i64 u]) _ (l.length - k) (c - k) ((l.drop k).flatMap fibC) rfl _ _ rfl rfl own2 rfl (HPB.out _ (HOWN.out.keep f2)) HDK.out (one_fibs _) (by omega) n2 f2 ?_
                    intro q3 c3 w3 own3 f3 hk3
                    refine hK.out _ _ ?_ (fun hHeld => ?_)
                    · exact ⟨fkeep f3 hr0, fkeep f3 hr1, fkeep f3 hr2, fkeep f3 hr3⟩
                    clear hK K
                    try simp only [PU]
                    refine hd_done (by kernel_rfl) ?_
                    clear hHeld
                    simp only [List.drop_succ_cons, List.drop_zero]
                    have HOWN3 := Lib.hid own3
                    have HF3 := Lib.hid f3
                    clear own3 f3 hk3 own2 f2 hk2 own1 f1 hk1
                    go_wp2
                    go_ret
                    exact HPOST.out q3 c3 w3 HOWN3.out HF3.out
                  exact hd_nil
                exact hd_nil
              exact hd_nil
            exact hd_nil
          exact hd_nil
    · have hltz : ¬ (k : Int) < (l.length : Int) := by omega
      have hltd : decide ((k : Int) < (l.length : Int)) = false := decide_eq_false hltz
      clear hf
      go_wp2
      refine wp_region_after (by kernel_rfl) (by kernel_rfl) ?_
      repeat (go_big_quiet_step (fail))
      refine wpQuiet_nil ?_
      rintro _ ⟨xa, rfl⟩
      clear h0 h1 h2 h3
      go_wp2
      obtain ⟨W6, hW6⟩ : ∃ W, W = xa.w' := ⟨_, rfl⟩
      rw [← hW6]
      have hf6 : Fresh W2 W6 := by rw [hW6]; exact fstep HF.out xa.h
      clear hW6
      have hfw6 : Fresh w W6 := fstep HF2.out hf6
      have HOWN := Lib.hid (HOW2.out.keep hf6)
      have hr0 := (HR2.out.keep hf6).cell (i := 0) rfl
      have hr1 := (HR2.out.keep hf6).cell (i := 1) rfl
      have hr2 := (HR2.out.keep hf6).cell (i := 2) rfl
      have hr3 := (HR2.out.keep hf6).cell (i := 3) rfl
      have HTK : Hid (((l.take k).flatMap fibC).length = k * 4) := by show _ = _; rw [flat_len fibC 4 (fun _ => rfl)]; simp; omega
      have HDK : Hid (((l.drop k).flatMap fibC).length = (l.length - k) * 4) := by show _ = _; rw [flat_len fibC 4 (fun _ => rfl)]; simp
      have HPA : Hid (∀ W : World, Own W base 59 p (l.flatMap fibC) → Cells W p ((l.take k).flatMap fibC)) := fun W hW => partE_a k hW
      have n1 : k ≤ 1048576 := by omega
      have n2 : l.length - k ≤ 1048576 := by omega
      have b1 : k ≤ c := by omega
      have b2 : k ≤ l.length := hj
      have b3 : (k : Int) ≤ (l.length : Int) := by omega
      have b4 : (k : Int) ≤ (c : Int) := by omega
      have HPOST : Hid (∀ (q3 : Option Addr) (c3 : Nat) (w3 : World), w3.ownsRow W6.heap.size 59 4 (.slice q3 (k + 1 + (l.length - k)) c3) (k + 1 + (l.length - k)) ((l.take k).flatMap fibC ++ [.int .i64 x, .int .i64 y, .int .i64 z, .int .i64 u] ++ (l.drop k).flatMap fibC) → Fresh W6 w3 → OutPut l.length w (.returned (.slice q3 (k + 1 + (l.length - k)) c3)) w3) := fun q3 c3 w3 h1 h2 => by
        have hlen : (l.take k ++ (⟨x, y, z, u⟩ : Fib) :: l.drop k).length = k + 1 + (l.length - k) := by simp; omega
        refine ⟨q3, c3, l.take k ++ (⟨x, y, z, u⟩ : Fib) :: l.drop k, by rw [hlen], by rw [hlen]; omega, fun g hg => ?_, ?_, fstep hfw6 h2⟩
        · rcases mem_insR hg with rfl | hg
          · exact HFB.out
          · exact HLB.out g hg
        · rw [hlen, List.flatMap_append, List.flatMap_cons, ← List.append_assoc]
          exact owns_mono h1 hfw6.size
      have hsm : ∃ A : Option Addr, (∀ W : World, Own W base 59 p (l.flatMap fibC) → Cells W A ((l.drop k).flatMap fibC)) ∧ ((p = none ∧ A = none ∧ l.length = 0 ∧ c = 0) ∨ ∃ g, p = some ⟨g, 0, none⟩ ∧ A = if c = k then (some (⟨g, 0, none⟩ : Addr)) else some ⟨g, k * 4, none⟩) := by
        rcases HL.out.2 with ⟨e1, e2⟩ | ⟨g, c2, cur, e1, _⟩
        · simp only [Value.slice.injEq] at e1
          obtain ⟨h1', -, h3'⟩ := e1
          refine ⟨none, fun W hW => Or.inl ?_, Or.inl ⟨h1', rfl, e2, h3'⟩⟩
          have : l = [] := List.eq_nil_of_length_eq_zero e2
          rw [this]; simp
        · simp only [Value.slice.injEq] at e1
          obtain ⟨h1', -, h3'⟩ := e1
          exact ⟨_, fun W hW => partE_b b2 hlc (by rw [h1'] at hW; exact hW), Or.inr ⟨g, h1', rfl⟩⟩
      obtain ⟨A, hPB, hcase⟩ := hsm
      have HPB := Lib.hid hPB
      clear hf6 hfw6 hPB
      rcases hcase with ⟨rfl, rfl, -, -⟩ | ⟨g, rfl, hA⟩
      · skip
        refine hd_start (n := 12) (S := fun w' => w'.cell? ⟨w.heap.size, 0, none⟩ = some (.int .i64 x) ∧ w'.cell? ⟨w.heap.size, 1, none⟩ = some (.int .i64 y) ∧ w'.cell? ⟨w.heap.size, 2, none⟩ = some (.int .i64 z) ∧ w'.cell? ⟨w.heap.size, 3, none⟩ = some (.int .i64 u)) (by kernel_rfl) (by kernel_rfl) ⟨fkeep (fdrew (frefl _)) hr0, fkeep (fdrew (frefl _)) hr1, fkeep (fdrew (frefl _)) hr2, fkeep (fdrew (frefl _)) hr3⟩ (fun hHeld => ?_)
        obtain ⟨c0, hc0⟩ : ∃ W, W = W6.drew := ⟨_, rfl⟩
        rw [← hc0] at hHeld ⊢
        have fc0 : Fresh W6 c0 := by rw [hc0]; exact fdrew (frefl _)
        clear hc0
        refine hd_tk (i := 1) (v := ?_) rfl ?_ ?_
        rotate_left
        · (intro w hSw; (try dsimp only at hSw); go_simp; first | done | with_reducible rfl)
        try simp only [PU]
        refine hd_tk (i := 2) (v := ?_) rfl ?_ ?_
        rotate_left
        · (intro w hSw; (try dsimp only at hSw); go_simp; first | done | with_reducible rfl)
        try simp only [PU]
        refine hd_tk (i := 3) (v := ?_) rfl ?_ ?_
        rotate_left
        · (intro w hSw; (try dsimp only at hSw); go_simp; first | done | with_reducible rfl)
        try simp only [PU]
        refine hd_tk (i := 5) (v := ?_) rfl ?_ ?_
        rotate_left
        · (intro w hSw; (try dsimp only at hSw); go_simp; first | done | with_reducible rfl)
        try simp only [PU]
        refine hd_tk (i := 8) (v := ?_) rfl ?_ ?_
        rotate_left
        · (intro w hSw; (try dsimp only at hSw); go_simp; first | done | with_reducible rfl)
        try simp only [PU]
        refine hd_tk (i := 9) (v := ?_) rfl ?_ ?_
        rotate_left
        · (intro w hSw; (try dsimp only at hSw); go_simp; first | done | with_reducible rfl)
        try simp only [PU]
        refine hd_tk (i := 10) (v := ?_) rfl ?_ ?_
        rotate_left
        · (intro w hSw; (try dsimp only at hSw); go_simp; first | done | with_reducible rfl)
        try simp only [PU]
        refine hd_ready (rs := [0, 6]) (by kernel_rfl) (by simp) ?_
        refine hd_cons (i := 0) rfl (by kernel_rfl) (fun K hK => ?_) ?_
        · skip
          go_simp
          obtain ⟨wa, hwa⟩ : ∃ W, W = c0.alloc (.cells #[] 59) := ⟨_, rfl⟩
          rw [← hwa]
          have fa : Fresh W6 wa := by rw [hwa]; exact fnew fc0 _
          have ra : RowAt wa c0.heap.size 59 [] := by rw [hwa]; exact RowAt.new _ _ _
          have ga : W6.heap.size ≤ c0.heap.size := fc0.size
          clear hwa
          refine hK.out _ _ ?_ (fun hHeld => ?_)
          · exact ⟨fkeep fa hr0, fkeep fa hr1, fkeep fa hr2, fkeep fa hr3⟩
          clear hK K
          try simp only [PU]
          refine hd_ready (rs := [4, 6]) (by kernel_rfl) (by simp) ?_
          refine hd_cons (i := 4) rfl (by kernel_rfl) (fun K hK => ?_) ?_
          · skip
            refine step_app_mm (some 25) rfl Try.underlying25 infoFib rfl (by decide) (by decide) W6 (.slice (some ⟨c0.heap.size, 0, none⟩) 0 0) 0 [] _ k c ((l.take k).flatMap fibC) rfl _ _ rfl rfl (ownsRow_zero ra ga) rfl (HPA.out _ (HOWN.out.keep fa)) HTK.out (one_fibs _) (by omega) n1 fa ?_
            rw [Nat.zero_add, List.nil_append]
            intro q1 c1 w1 own1 f1 hk1
            refine hK.out _ _ ?_ (fun hHeld => ?_)
            · exact ⟨fkeep f1 hr0, fkeep f1 hr1, fkeep f1 hr2, fkeep f1 hr3⟩
            clear hK K
            try simp only [PU]
            refine hd_ready (rs := [6]) (by kernel_rfl) (by simp) ?_
            refine hd_cons (i := 6) rfl (by kernel_rfl) (fun K hK => ?_) ?_
            · skip
              go_simp
              obtain ⟨wb, hwb⟩ : ∃ W, W = w1.alloc (.cells #[.int .i64 x, .int .i64 y, .int .i64 z, .int .i64 u] 59) := ⟨_, rfl⟩
              rw [← hwb]
              have fb : Fresh W6 wb := by rw [hwb]; exact fnew f1 _
              have rb : RowAt wb w1.heap.size 59 [.int .i64 x, .int .i64 y, .int .i64 z, .int .i64 u] := by rw [hwb]; exact RowAt.new _ _ _
              have own1b := ownsRow_keep own1 (show Fresh w1 wb by rw [hwb]; exact fnew (frefl _) _)
              clear hwb
              refine hK.out _ _ ?_ (fun hHeld => ?_)
              · exact ⟨fkeep fb hr0, fkeep fb hr1, fkeep fb hr2, fkeep fb hr3⟩
              clear hK K
              try simp only [PU]
              refine hd_ready (rs := [7]) (by kernel_rfl) (by simp) ?_
              refine hd_cons (i := 7) rfl (by kernel_rfl) (fun K hK => ?_) ?_
              · skip
                refine step_app_mm (some 28) rfl Try.underlying25 infoFib rfl (by decide) (by decide) W6 _ k ((l.take k).flatMap fibC) (some ⟨w1.heap.size, 0, none⟩) 1 1 [.int .i64 x, .int .i64 y, .int .i64 z, .int .i64 u] rfl _ _ rfl rfl own1b rfl rb.cells rfl (by intro a ha; simp at ha; rcases ha with rfl | rfl | rfl | rfl <;> rfl) n1 (by decide) fb ?_
                intro q2 c2 w2 own2 f2 hk2
                refine hK.out _ _ ?_ (fun hHeld => ?_)
                · exact ⟨fkeep f2 hr0, fkeep f2 hr1, fkeep f2 hr2, fkeep f2 hr3⟩
                clear hK K
                try simp only [PU]
                refine hd_ready (rs := [11]) (by kernel_rfl) (by simp) ?_
                refine hd_cons (i := 11) rfl (by kernel_rfl) (fun K hK => ?_) ?_
                · skip
                  refine step_app_mm (some 32) rfl Try.underlying25 infoFib rfl (by decide) (by decide) W6 (.slice q2 (k + 1) c2) (k + 1) ((l.take k).flatMap fibC ++ [.int .i64 x, .int .i64 y, .int .i64 z, .int .i64 u]) _ (l.length - k) (c - k) ((l.drop k).flatMap fibC) rfl _ _ rfl rfl own2 rfl (HPB.out _ (HOWN.out.keep f2)) HDK.out (one_fibs _) (by omega) n2 f2 ?_
                  intro q3 c3 w3 own3 f3 hk3
                  refine hK.out _ _ ?_ (fun hHeld => ?_)
                  · exact ⟨fkeep f3 hr0, fkeep f3 hr1, fkeep f3 hr2, fkeep f3 hr3⟩
                  clear hK K
                  try simp only [PU]
                  refine hd_done (by kernel_rfl) ?_
                  clear hHeld
                  simp only [List.drop_succ_cons, List.drop_zero]
                  have HOWN3 := Lib.hid own3
                  have HF3 := Lib.hid f3
                  clear own3 f3 hk3 own2 f2 hk2 own1 f1 hk1
                  go_wp2
                  go_ret
                  exact HPOST.out q3 c3 w3 HOWN3.out HF3.out
                exact hd_nil
              exact hd_nil
            exact hd_nil
          refine hd_cons (i := 6) rfl (by kernel_rfl) (fun K hK => ?_) ?_
          · skip
            go_simp
            obtain ⟨wb, hwb⟩ : ∃ W, W = wa.alloc (.cells #[.int .i64 x, .int .i64 y, .int .i64 z, .int .i64 u] 59) := ⟨_, rfl⟩
            rw [← hwb]
            have fb : Fresh W6 wb := by rw [hwb]; exact fnew fa _
            have rb : RowAt wb wa.heap.size 59 [.int .i64 x, .int .i64 y, .int .i64 z, .int .i64 u] := by rw [hwb]; exact RowAt.new _ _ _
            have ra2 : RowAt wb c0.heap.size 59 [] := by rw [hwb]; exact ra.alloc _
            have nab : wa.heap.size ≠ c0.heap.size := by have := ra.lt; omega
            clear hwb
            refine hK.out _ _ ?_ (fun hHeld => ?_)
            · exact ⟨fkeep fb hr0, fkeep fb hr1, fkeep fb hr2, fkeep fb hr3⟩
            clear hK K
            try simp only [PU]
            refine hd_ready (rs := [4]) (by kernel_rfl) (by simp) ?_
            refine hd_cons (i := 4) rfl (by kernel_rfl) (fun K hK => ?_) ?_
            · skip
              refine step_app_mm (some 25) rfl Try.underlying25 infoFib rfl (by decide) (by decide) W6 (.slice (some ⟨c0.heap.size, 0, none⟩) 0 0) 0 [] _ k c ((l.take k).flatMap fibC) rfl _ _ rfl rfl (ownsRow_zero ra2 ga) rfl (HPA.out _ (HOWN.out.keep fb)) HTK.out (one_fibs _) (by omega) n1 fb ?_
              rw [Nat.zero_add, List.nil_append]
              intro q1 c1 w1 own1 f1 hk1
              have rb1 := hk1 _ _ _ rb (Or.inr (by simp only [Value.ownBlock, ne_eq, Option.some.injEq]; exact nab.symm))
              refine hK.out _ _ ?_ (fun hHeld => ?_)
              · exact ⟨fkeep f1 hr0, fkeep f1 hr1, fkeep f1 hr2, fkeep f1 hr3⟩
              clear hK K
              try simp only [PU]
              refine hd_ready (rs := [7]) (by kernel_rfl) (by simp) ?_
              refine hd_cons (i := 7) rfl (by kernel_rfl) (fun K hK => ?_) ?_
              · skip
                refine step_app_mm (some 28) rfl Try.underlying25 infoFib rfl (by decide) (by decide) W6 _ k ((l.take k).flatMap fibC) (some ⟨wa.heap.size, 0, none⟩) 1 1 [.int .i64 x, .int .i64 y, .int .i64 z, .int .i64 u] rfl _ _ rfl rfl own1 rfl rb1.cells rfl (by intro a ha; simp at ha; rcases ha with rfl | rfl | rfl | rfl <;> rfl) n1 (by decide) f1 ?_
                intro q2 c2 w2 own2 f2 hk2
                refine hK.out _ _ ?_ (fun hHeld => ?_)
                · exact ⟨fkeep f2 hr0, fkeep f2 hr1, fkeep f2 hr2, fkeep f2 hr3⟩
                clear hK K
                try simp only [PU]
                refine hd_ready (rs := [11]) (by kernel_rfl) (by simp) ?_
                refine hd_cons (i := 11) rfl (by kernel_rfl) (fun K hK => ?_) ?_
                · skip
                  refine step_app_mm (some 32) rfl Try.underlying25 infoFib rfl (by decide) (by decide) W6 (.slice q2 (k + 1) c2) (k + 1) ((l.take k).flatMap fibC ++ [.int .i64 x, .int .i64 y, .int .i64 z, .int .i64 u]) _ (l.length - k) (c - k) ((l.drop k).flatMap fibC) rfl _ _ rfl rfl own2 rfl (HPB.out _ (HOWN.out.keep f2)) HDK.out (one_fibs _) (by omega) n2 f2 ?_
                  intro q3 c3 w3 own3 f3 hk3
                  refine hK.out _ _ ?_ (fun hHeld => ?_)
                  · exact ⟨fkeep f3 hr0, fkeep f3 hr1, fkeep f3 hr2, fkeep f3 hr3⟩
                  clear hK K
                  try simp only [PU]
                  refine hd_done (by kernel_rfl) ?_
                  clear hHeld
                  simp only [List.drop_succ_cons, List.drop_zero]
                  have HOWN3 := Lib.hid own3
                  have HF3 := Lib.hid f3
                  clear own3 f3 hk3 own2 f2 hk2 own1 f1 hk1
                  go_wp2
                  go_ret
                  exact HPOST.out q3 c3 w3 HOWN3.out HF3.out
                exact hd_nil
              exact hd_nil
            exact hd_nil
          exact hd_nil
        refine hd_cons (i := 6) rfl (by kernel_rfl) (fun K hK => ?_) ?_
        · skip
          go_simp
          obtain ⟨wb, hwb⟩ : ∃ W, W = c0.alloc (.cells #[.int .i64 x, .int .i64 y, .int .i64 z, .int .i64 u] 59) := ⟨_, rfl⟩
          rw [← hwb]
          have fb : Fresh W6 wb := by rw [hwb]; exact fnew fc0 _
          have rb : RowAt wb c0.heap.size 59 [.int .i64 x, .int .i64 y, .int .i64 z, .int .i64 u] := by rw [hwb]; exact RowAt.new _ _ _
          clear hwb
          refine hK.out _ _ ?_ (fun hHeld => ?_)
          · exact ⟨fkeep fb hr0, fkeep fb hr1, fkeep fb hr2, fkeep fb hr3⟩
          clear hK K
          try simp only [PU]
          refine hd_ready (rs := [0]) (by kernel_rfl) (by simp) ?_
          refine hd_cons (i := 0) rfl (by kernel_rfl) (fun K hK => ?_) ?_
          · skip
            go_simp
            obtain ⟨wa, hwa⟩ : ∃ W, W = wb.alloc (.cells #[] 59) := ⟨_, rfl⟩
            rw [← hwa]
            have fa : Fresh W6 wa := by rw [hwa]; exact fnew fb _
            have ra : RowAt wa wb.heap.size 59 [] := by rw [hwa]; exact RowAt.new _ _ _
            have rb2 : RowAt wa c0.heap.size 59 [.int .i64 x, .int .i64 y, .int .i64 z, .int .i64 u] := by rw [hwa]; exact rb.alloc _
            have ga : W6.heap.size ≤ wb.heap.size := fb.size
            clear hwa
            refine hK.out _ _ ?_ (fun hHeld => ?_)
            · exact ⟨fkeep fa hr0, fkeep fa hr1, fkeep fa hr2, fkeep fa hr3⟩
            clear hK K
            try simp only [PU]
            refine hd_ready (rs := [4]) (by kernel_rfl) (by simp) ?_
            refine hd_cons (i := 4) rfl (by kernel_rfl) (fun K hK => ?_) ?_
            · skip
              refine step_app_mm (some 25) rfl Try.underlying25 infoFib rfl (by decide) (by decide) W6 (.slice (some ⟨wb.heap.size, 0, none⟩) 0 0) 0 [] _ k c ((l.take k).flatMap fibC) rfl _ _ rfl rfl (ownsRow_zero ra ga) rfl (HPA.out _ (HOWN.out.keep fa)) HTK.out (one_fibs _) (by omega) n1 fa ?_
              rw [Nat.zero_add, List.nil_append]
              intro q1 c1 w1 own1 f1 hk1
              have rb1 := hk1 _ _ _ rb2 (Or.inr (by simp only [Value.ownBlock, ne_eq, Option.some.injEq]; have := rb.lt; omega))
              refine hK.out _ _ ?_ (fun hHeld => ?_)
              · exact ⟨fkeep f1 hr0, fkeep f1 hr1, fkeep f1 hr2, fkeep f1 hr3⟩
              clear hK K
              try simp only [PU]
              refine hd_ready (rs := [7]) (by kernel_rfl) (by simp) ?_
              refine hd_cons (i := 7) rfl (by kernel_rfl) (fun K hK => ?_) ?_
              · skip
                refine step_app_mm (some 28) rfl Try.underlying25 infoFib rfl (by decide) (by decide) W6 _ k ((l.take k).flatMap fibC) (some ⟨c0.heap.size, 0, none⟩) 1 1 [.int .i64 x, .int .i64 y, .int .i64 z, .int .i64 u] rfl _ _ rfl rfl own1 rfl rb1.cells rfl (by intro a ha; simp at ha; rcases ha with rfl | rfl | rfl | rfl <;> rfl) n1 (by decide) f1 ?_
                intro q2 c2 w2 own2 f2 hk2
                refine hK.out _ _ ?_ (fun hHeld => ?_)
                · exact ⟨fkeep f2 hr0, fkeep f2 hr1, fkeep f2 hr2, fkeep f2 hr3⟩
                clear hK K
                try simp only [PU]
                refine hd_ready (rs := [11]) (by kernel_rfl) (by simp) ?_
                refine hd_cons (i := 11) rfl (by kernel_rfl) (fun K hK => ?_) ?_
                · skip
                  refine step_app_mm (some 32) rfl Try.underlying25 infoFib rfl (by decide) (by decide) W6 (.slice q2 (k + 1) c2) (k + 1) ((l.take k).flatMap fibC ++ [.int .i64 x, .int .i64 y, .int .i64 z, .int .i64 u]) _ (l.length - k) (c - k) ((l.drop k).flatMap fibC) rfl _ _ rfl rfl own2 rfl (HPB.out _ (HOWN.out.keep f2)) HDK.out (one_fibs _) (by omega) n2 f2 ?_
                  intro q3 c3 w3 own3 f3 hk3
                  refine hK.out _ _ ?_ (fun hHeld => ?_)
                  · exact ⟨fkeep f3 hr0, fkeep f3 hr1, fkeep f3 hr2, fkeep f3 hr3⟩
                  clear hK K
                  try simp only [PU]
                  refine hd_done (by kernel_rfl) ?_
                  clear hHeld
                  simp only [List.drop_succ_cons, List.drop_zero]
                  have HOWN3 := Lib.hid own3
                  have HF3 := Lib.hid f3
                  clear own3 f3 hk3 own2 f2 hk2 own1 f1 hk1
                  go_wp2
                  go_ret
                  exact HPOST.out q3 c3 w3 HOWN3.out HF3.out
                exact hd_nil
              exact hd_nil
            exact hd_nil
          exact hd_nil
        exact hd_nil
      · have hA' := hA.symm
        clear hA
        refine hd_start (n := 12) (S := fun w' => w'.cell? ⟨w.heap.size, 0, none⟩ = some (.int .i64 x) ∧ w'.cell? ⟨w.heap.size, 1, none⟩ = some (.int .i64 y) ∧ w'.cell? ⟨w.heap.size, 2, none⟩ = some (.int .i64 z) ∧ w'.cell? ⟨w.heap.size, 3, none⟩ = some (.int .i64 u)) (by kernel_rfl) (by kernel_rfl) ⟨fkeep (fdrew (frefl _)) hr0, fkeep (fdrew (frefl _)) hr1, fkeep (fdrew (frefl _)) hr2, fkeep (fdrew (frefl _)) hr3⟩ (fun hHeld => ?_)
        obtain ⟨c0, hc0⟩ : ∃ W, W = W6.drew := ⟨_, rfl⟩
        rw [← hc0] at hHeld ⊢
        have fc0 : Fresh W6 c0 := by rw [hc0]; exact fdrew (frefl _)
        clear hc0
        refine hd_tk (i := 1) (v := ?_) rfl ?_ ?_
        rotate_left
        · (intro w hSw; (try dsimp only at hSw); go_simp; first | done | with_reducible rfl)
        try simp only [PU]
        refine hd_tk (i := 2) (v := ?_) rfl ?_ ?_
        rotate_left
        · (intro w hSw; (try dsimp only at hSw); go_simp; first | done | with_reducible rfl)
        try simp only [PU]
        refine hd_tk (i := 3) (v := ?_) rfl ?_ ?_
        rotate_left
        · (intro w hSw; (try dsimp only at hSw); go_simp; first | done | with_reducible rfl)
        try simp only [PU]
        refine hd_tk (i := 5) (v := ?_) rfl ?_ ?_
        rotate_left
        · (intro w hSw; (try dsimp only at hSw); go_simp; first | done | with_reducible rfl)
        try simp only [PU]
        refine hd_tk (i := 8) (v := ?_) rfl ?_ ?_
        rotate_left
        · (intro w hSw; (try dsimp only at hSw); go_simp; first | done | with_reducible rfl)
        try simp only [PU]
        refine hd_tk (i := 9) (v := ?_) rfl ?_ ?_
        rotate_left
        · (intro w hSw; (try dsimp only at hSw); go_simp; first | done | with_reducible rfl)
        try simp only [PU]
        refine hd_tk (i := 10) (v := ?_) rfl ?_ ?_
        rotate_left
        · (intro w hSw; (try dsimp only at hSw); go_simp; first | done | with_reducible rfl)
        try simp only [PU]
        refine hd_ready (rs := [0, 6]) (by kernel_rfl) (by simp) ?_
        refine hd_cons (i := 0) rfl (by kernel_rfl) (fun K hK => ?_) ?_
        · skip
          go_simp
          obtain ⟨wa, hwa⟩ : ∃ W, W = c0.alloc (.cells #[] 59) := ⟨_, rfl⟩
          rw [← hwa]
          have fa : Fresh W6 wa := by rw [hwa]; exact fnew fc0 _
          have ra : RowAt wa c0.heap.size 59 [] := by rw [hwa]; exact RowAt.new _ _ _
          have ga : W6.heap.size ≤ c0.heap.size := fc0.size
          clear hwa
          refine hK.out _ _ ?_ (fun hHeld => ?_)
          · exact ⟨fkeep fa hr0, fkeep fa hr1, fkeep fa hr2, fkeep fa hr3⟩
          clear hK K
          try simp only [PU]
          refine hd_ready (rs := [4, 6]) (by kernel_rfl) (by simp) ?_
          refine hd_cons (i := 4) rfl (by kernel_rfl) (fun K hK => ?_) ?_
          · skip
            refine step_app_mm (some 25) rfl Try.underlying25 infoFib rfl (by decide) (by decide) W6 (.slice (some ⟨c0.heap.size, 0, none⟩) 0 0) 0 [] _ k c ((l.take k).flatMap fibC) rfl _ _ rfl rfl (ownsRow_zero ra ga) rfl (HPA.out _ (HOWN.out.keep fa)) HTK.out (one_fibs _) (by omega) n1 fa ?_
            rw [Nat.zero_add, List.nil_append]
            intro q1 c1 w1 own1 f1 hk1
            refine hK.out _ _ ?_ (fun hHeld => ?_)
            · exact ⟨fkeep f1 hr0, fkeep f1 hr1, fkeep f1 hr2, fkeep f1 hr3⟩
            clear hK K
            try simp only [PU]
            refine hd_ready (rs := [6]) (by kernel_rfl) (by simp) ?_
            refine hd_cons (i := 6) rfl (by kernel_rfl) (fun K hK => ?_) ?_
            · skip
              go_simp
              obtain ⟨wb, hwb⟩ : ∃ W, W = w1.alloc (.cells #[.int .i64 x, .int .i64 y, .int .i64 z, .int .i64 u] 59) := ⟨_, rfl⟩
              rw [← hwb]
              have fb : Fresh W6 wb := by rw [hwb]; exact fnew f1 _
              have rb : RowAt wb w1.heap.size 59 [.int .i64 x, .int .i64 y, .int .i64 z, .int .i64 u] := by rw [hwb]; exact RowAt.new _ _ _
              have own1b := ownsRow_keep own1 (show Fresh w1 wb by rw [hwb]; exact fnew (frefl _) _)
              clear hwb
              refine hK.out _ _ ?_ (fun hHeld => ?_)
              · exact ⟨fkeep fb hr0, fkeep fb hr1, fkeep fb hr2, fkeep fb hr3⟩
              clear hK K
              try simp only [PU]
              refine hd_ready (rs := [7]) (by kernel_rfl) (by simp) ?_
              refine hd_cons (i := 7) rfl (by kernel_rfl) (fun K hK => ?_) ?_
              · skip
                refine step_app_mm (some 28) rfl Try.underlying25 infoFib rfl (by decide) (by decide) W6 _ k ((l.take k).flatMap fibC) (some ⟨w1.heap.size, 0, none⟩) 1 1 [.int .i64 x, .int .i64 y, .int .i64 z, .int .i64 u] rfl _ _ rfl rfl own1b rfl rb.cells rfl (by intro a ha; simp at ha; rcases ha with rfl | rfl | rfl | rfl <;> rfl) n1 (by decide) fb ?_
                intro q2 c2 w2 own2 f2 hk2
                refine hK.out _ _ ?_ (fun hHeld => ?_)
                · exact ⟨fkeep f2 hr0, fkeep f2 hr1, fkeep f2 hr2, fkeep f2 hr3⟩
                clear hK K
                try simp only [PU]
                refine hd_ready (rs := [11]) (by kernel_rfl) (by simp) ?_
                refine hd_cons (i := 11) rfl (by kernel_rfl) (fun K hK => ?_) ?_
                · skip
                  refine step_app_mm (some 32) rfl Try.underlying25 infoFib rfl (by decide) (by decide) W6 (.slice q2 (k + 1) c2) (k + 1) ((l.take k).flatMap fibC ++ [.int .i64 x, .int .i64 y, .int .i64 z, .int .i64 u]) _ (l.length - k) (c - k) ((l.drop k).flatMap fibC) rfl _ _ rfl rfl own2 rfl (HPB.out _ (HOWN.out.keep f2)) HDK.out (one_fibs _) (by omega) n2 f2 ?_
                  intro q3 c3 w3 own3 f3 hk3
                  refine hK.out _ _ ?_ (fun hHeld => ?_)
                  · exact ⟨fkeep f3 hr0, fkeep f3 hr1, fkeep f3 hr2, fkeep f3 hr3⟩
                  clear hK K
                  try simp only [PU]
                  refine hd_done (by kernel_rfl) ?_
                  clear hHeld
                  simp only [List.drop_succ_cons, List.drop_zero]
                  have HOWN3 := Lib.hid own3
                  have HF3 := Lib.hid f3
                  clear own3 f3 hk3 own2 f2 hk2 own1 f1 hk1
                  go_wp2
                  go_ret
                  exact HPOST.out q3 c3 w3 HOWN3.out HF3.out
                exact hd_nil
              exact hd_nil
            exact hd_nil
          refine hd_cons (i := 6) rfl (by kernel_rfl) (fun K hK => ?_) ?_
          · skip
            go_simp
            obtain ⟨wb, hwb⟩ : ∃ W, W = wa.alloc (.cells #[.int .i64 x, .int .i64 y, .int .i64 z, .int .i64 u] 59) := ⟨_, rfl⟩
            rw [← hwb]
            have fb : Fresh W6 wb := by rw [hwb]; exact fnew fa _
            have rb : RowAt wb wa.heap.size 59 [.int .i64 x, .int .i64 y, .int .i64 z, .int .i64 u] := by rw [hwb]; exact RowAt.new _ _ _
            have ra2 : RowAt wb c0.heap.size 59 [] := by rw [hwb]; exact ra.alloc _
            have nab : wa.heap.size ≠ c0.heap.size := by have := ra.lt; omega
            clear hwb
            refine hK.out _ _ ?_ (fun hHeld => ?_)
            · exact ⟨fkeep fb hr0, fkeep fb hr1, fkeep fb hr2, fkeep fb hr3⟩
            clear hK K
            try simp only [PU]
            refine hd_ready (rs := [4]) (by kernel_rfl) (by simp) ?_
            refine hd_cons (i := 4) rfl (by kernel_rfl) (fun K hK => ?_) ?_
            · skip
              refine step_app_mm (some 25) rfl Try.underlying25 infoFib rfl (by decide) (by decide) W6 (.slice (some ⟨c0.heap.size, 0, none⟩) 0 0) 0 [] _ k c ((l.take k).flatMap fibC) rfl _ _ rfl rfl (ownsRow_zero ra2 ga) rfl (HPA.out _ (HOWN.out.keep fb)) HTK.out (one_fibs _) (by omega) n1 fb ?_
              rw [Nat.zero_add, List.nil_append]
              intro q1 c1 w1 own1 f1 hk1
              have rb1 := hk1 _ _ _ rb (Or.inr (by simp only [Value.ownBlock, ne_eq, Option.some.injEq]; exact nab.symm))
              refine hK.out _ _ ?_ (fun hHeld => ?_)
              · exact ⟨fkeep f1 hr0, fkeep f1 hr1, fkeep f1 hr2, fkeep f1 hr3⟩
              clear hK K
              try simp only [PU]
              refine hd_ready (rs := [7]) (by kernel_rfl) (by simp) ?_
              refine hd_cons (i := 7) rfl (by kernel_rfl) (fun K hK => ?_) ?_
              · skip
                refine step_app_mm (some 28) rfl Try.underlying25 infoFib rfl (by decide) (by decide) W6 _ k ((l.take k).flatMap fibC) (some ⟨wa.heap.size, 0, none⟩) 1 1 [.int .i64 x, .int .i64 y, .int .i64 z, .int .i64 u] rfl _ _ rfl rfl own1 rfl rb1.cells rfl (by intro a ha; simp at ha; rcases ha with rfl | rfl | rfl | rfl <;> rfl) n1 (by decide) f1 ?_
                intro q2 c2 w2 own2 f2 hk2
                refine hK.out _ _ ?_ (fun hHeld => ?_)
                · exact ⟨fkeep f2 hr0, fkeep f2 hr1, fkeep f2 hr2, fkeep f2 hr3⟩
                clear hK K
                try simp only [PU]
                refine hd_ready (rs := [11]) (by kernel_rfl) (by simp) ?_
                refine hd_cons (i := 11) rfl (by kernel_rfl) (fun K hK => ?_) ?_
                · skip
                  refine step_app_mm (some 32) rfl Try.underlying25 infoFib rfl (by decide) (by decide) W6 (.slice q2 (k + 1) c2) (k + 1) ((l.take k).flatMap fibC ++ [.int .i64 x, .int .i64 y, .int .i64 z, .int .i64 u]) _ (l.length - k) (c - k) ((l.drop k).flatMap fibC) rfl _ _ rfl rfl own2 rfl (HPB.out _ (HOWN.out.keep f2)) HDK.out (one_fibs _) (by omega) n2 f2 ?_
                  intro q3 c3 w3 own3 f3 hk3
                  refine hK.out _ _ ?_ (fun hHeld => ?_)
                  · exact ⟨fkeep f3 hr0, fkeep f3 hr1, fkeep f3 hr2, fkeep f3 hr3⟩
                  clear hK K
                  try simp only [PU]
                  refine hd_done (by kernel_rfl) ?_
                  clear hHeld
                  simp only [List.drop_succ_cons, List.drop_zero]
                  have HOWN3 := Lib.hid own3
                  have HF3 := Lib.hid f3
                  clear own3 f3 hk3 own2 f2 hk2 own1 f1 hk1
                  go_wp2
                  go_ret
                  exact HPOST.out q3 c3 w3 HOWN3.out HF3.out
                exact hd_nil
              exact hd_nil
            exact hd_nil
          exact hd_nil
        refine hd_cons (i := 6) rfl (by kernel_rfl) (fun K hK => ?_) ?_
        · skip
          go_simp
          obtain ⟨wb, hwb⟩ : ∃ W, W = c0.alloc (.cells #[.int .i64 x, .int .i64 y, .int .i64 z, .int .i64 u] 59) := ⟨_, rfl⟩
          rw [← hwb]
          have fb : Fresh W6 wb := by rw [hwb]; exact fnew fc0 _
          have rb : RowAt wb c0.heap.size 59 [.int .i64 x, .int .i64 y, .int .i64 z, .int .i64 u] := by rw [hwb]; exact RowAt.new _ _ _
          clear hwb
          refine hK.out _ _ ?_ (fun hHeld => ?_)
          · exact ⟨fkeep fb hr0, fkeep fb hr1, fkeep fb hr2, fkeep fb hr3⟩
          clear hK K
          try simp only [PU]
          refine hd_ready (rs := [0]) (by kernel_rfl) (by simp) ?_
          refine hd_cons (i := 0) rfl (by kernel_rfl) (fun K hK => ?_) ?_
          · skip
            go_simp
            obtain ⟨wa, hwa⟩ : ∃ W, W = wb.alloc (.cells #[] 59) := ⟨_, rfl⟩
            rw [← hwa]
            have fa : Fresh W6 wa := by rw [hwa]; exact fnew fb _
            have ra : RowAt wa wb.heap.size 59 [] := by rw [hwa]; exact RowAt.new _ _ _
            have rb2 : RowAt wa c0.heap.size 59 [.int .i64 x, .int .i64 y, .int .i64 z, .int .i64 u] := by rw [hwa]; exact rb.alloc _
            have ga : W6.heap.size ≤ wb.heap.size := fb.size
            clear hwa
            refine hK.out _ _ ?_ (fun hHeld => ?_)
            · exact ⟨fkeep fa hr0, fkeep fa hr1, fkeep fa hr2, fkeep fa hr3⟩
            clear hK K
            try simp only [PU]
            refine hd_ready (rs := [4]) (by kernel_rfl) (by simp) ?_
            refine hd_cons (i := 4) rfl (by kernel_rfl) (fun K hK => ?_) ?_
            · skip
              refine step_app_mm (some 25) rfl Try.underlying25 infoFib rfl (by decide) (by decide) W6 (.slice (some ⟨wb.heap.size, 0, none⟩) 0 0) 0 [] _ k c ((l.take k).flatMap fibC) rfl _ _ rfl rfl (ownsRow_zero ra ga) rfl (HPA.out _ (HOWN.out.keep fa)) HTK.out (one_fibs _) (by omega) n1 fa ?_
              rw [Nat.zero_add, List.nil_append]
              intro q1 c1 w1 own1 f1 hk1
              have rb1 := hk1 _ _ _ rb2 (Or.inr (by simp only [Value.ownBlock, ne_eq, Option.some.injEq]; have := rb.lt; omega))
              refine hK.out _ _ ?_ (fun hHeld => ?_)
              · exact ⟨fkeep f1 hr0, fkeep f1 hr1, fkeep f1 hr2, fkeep f1 hr3⟩
              clear hK K
              try simp only [PU]
              refine hd_ready (rs := [7]) (by kernel_rfl) (by simp) ?_
              refine hd_cons (i := 7) rfl (by kernel_rfl) (fun K hK => ?_) ?_
              · skip
                refine step_app_mm (some 28) rfl Try.underlying25 infoFib rfl (by decide) (by decide) W6 _ k ((l.take k).flatMap fibC) (some ⟨c0.heap.size, 0, none⟩) 1 1 [.int .i64 x, .int .i64 y, .int .i64 z, .int .i64 u] rfl _ _ rfl rfl own1 rfl rb1.cells rfl (by intro a ha; simp at ha; rcases ha with rfl | rfl | rfl | rfl <;> rfl) n1 (by decide) f1 ?_
                intro q2 c2 w2 own2 f2 hk2
                refine hK.out _ _ ?_ (fun hHeld => ?_)
                · exact ⟨fkeep f2 hr0, fkeep f2 hr1, fkeep f2 hr2, fkeep f2 hr3⟩
                clear hK K
                try simp only [PU]
                refine hd_ready (rs := [11]) (by kernel_rfl) (by simp) ?_
                refine hd_cons (i := 11) rfl (by kernel_rfl) (fun K hK => ?_) ?_
                · skip
                  refine step_app_mm (some 32) rfl Try.underlying25 infoFib rfl (by decide) (by decide) W6 (.slice q2 (k + 1) c2) (k + 1) ((l.take k).flatMap fibC ++ [.int .i64 x, .int .i64 y, .int .i64 z, .int .i64 u]) _ (l.length - k) (c - k) ((l.drop k).flatMap fibC) rfl _ _ rfl rfl own2 rfl (HPB.out _ (HOWN.out.keep f2)) HDK.out (one_fibs _) (by omega) n2 f2 ?_
                  intro q3 c3 w3 own3 f3 hk3
                  refine hK.out _ _ ?_ (fun hHeld => ?_)
                  · exact ⟨fkeep f3 hr0, fkeep f3 hr1, fkeep f3 hr2, fkeep f3 hr3⟩
                  clear hK K
                  try simp only [PU]
                  refine hd_done (by kernel_rfl) ?_
                  clear hHeld
                  simp only [List.drop_succ_cons, List.drop_zero]
                  have HOWN3 := Lib.hid own3
                  have HF3 := Lib.hid f3
                  clear own3 f3 hk3 own2 f2 hk2 own1 f1 hk1
                  go_wp2
                  go_ret
                  exact HPOST.out q3 c3 w3 HOWN3.out HF3.out
                exact hd_nil
              exact hd_nil
            exact hd_nil
          exact hd_nil
        exact hd_nil
end Go.Proofs.Ytlapicgeokjpjaa
