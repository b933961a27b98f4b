/- Contracts: the costs of demands; CostBound, both sides. -/
import Derived.Test.YtlcppdbpajdnlaaGreatV5
import Derived.Test.YtlcppdbpajdnlaaGreatHd
namespace Go.Proofs.YtlcppdbpajdnlaaGreat
open Go.RowKit Go.PlainAid

theorem chF_k (n : Net) (fm : List (Int × Int)) (d : Fib) : 0 ≤ (chF n fm d).2.1 ∧ (chF n fm d).2.1 ≤ 24 := by
  unfold chF
  cases e : ordV (usF n fm d).1 with
  | nil => exact ⟨Int.le_refl _, by decide⟩
  | cons c t =>
    show 0 ≤ c.2 ∧ c.2 ≤ 24
    have hm : c ∈ (usF n fm d).1 := ordL_mem (K := kCV) (d := ((0, []), 0)) (by show c ∈ ordV _; rw [e]; exact List.mem_cons_self)
    cases hok : usOk n fm d
    · rw [fibs_none hok] at hm; cases hm
    · rw [usF_yes hok] at hm
      have hu : usB n fm d = true := by unfold usOk at hok; simp only [Bool.and_eq_true] at hok; exact hok.1
      obtain ⟨h1, h2, _, h3, _, h4, _, _⟩ := usB_at hu
      have hm2 : c ∈ usL n fm d.len (allR n d.a d.b) := hm
      obtain ⟨_, m2, m3⟩ := usL_mem h2 h3 hm2
      exact ⟨by omega, m3⟩
def costF (n : Net) (fm : List (Int × Int)) (d : Fib) : Int := (chF n fm d).2.1 * ((chF n fm d).1.2.length : Int)
theorem costF_fit (n : Net) (fm : List (Int × Int)) (d : Fib) : 0 ≤ costF n fm d ∧ costF n fm d ≤ 25165824 := by
  have h1 := chF_k n fm d
  have h2 : (chF n fm d).1.2.length ≤ 1048576 := chF_small n fm d
  exact cost_fit (x := ⟨0, none, (chF n fm d).1.2.length, 0, (chF n fm d).2.1⟩) ⟨h1.1, h1.2, h2⟩
def costB (n : Net) (fm : List (Int × Int)) (l : List Fib) : Bool := fmtsB fm && (demsB n l && l.all fun d => (chF n fm d).2.2)
def costL (n : Net) (fm : List (Int × Int)) (l : List Fib) : List Int := if costB n fm l then l.map (costF n fm) else []
theorem costL_no {n : Net} {fm : List (Int × Int)} {l : List Fib} (h : costB n fm l = false) : costL n fm l = [] := by unfold costL; rw [h]; rfl
theorem costL_yes {n : Net} {fm : List (Int × Int)} {l : List Fib} (h : costB n fm l = true) : costL n fm l = l.map (costF n fm) := by unfold costL; rw [h]; rfl
theorem costB_fm {n : Net} {fm : List (Int × Int)} {l : List Fib} (h : fmtsB fm = false) : costB n fm l = false := by unfold costB; rw [h]; rfl
theorem costB_dm {n : Net} {fm : List (Int × Int)} {l : List Fib} (h : demsB n l = false) : costB n fm l = false := by unfold costB; rw [h]; simp
theorem costB_ch {n : Net} {fm : List (Int × Int)} {l : List Fib} {j : Nat} {d : Fib} (hx : l[j]? = some d) (h : (chF n fm d).2.2 = false) : costB n fm l = false := by
  have : (l.all fun d => (chF n fm d).2.2) = false := by rw [List.all_eq_false]; exact ⟨d, List.mem_of_getElem? hx, by simp [h]⟩
  unfold costB; rw [this]; simp
theorem costB_end {n : Net} {fm : List (Int × Int)} {l : List Fib} (h1 : fmtsB fm = true) (h2 : demsB n l = true) (h : ∀ d ∈ l, (chF n fm d).2.2 = true) : costB n fm l = true := by
  have : (l.all fun d => (chF n fm d).2.2) = true := by rw [List.all_eq_true]; exact h
  unfold costB; rw [h1, h2, this]; rfl
theorem demsB_len {n : Net} {l : List Fib} (h : demsB n l = true) : l.length ≤ 12 := by
  unfold demsB at h; simp only [Bool.and_eq_true, decide_eq_true_eq] at h; exact h.1.1
theorem costL_len (n : Net) (fm : List (Int × Int)) (l : List Fib) : (costL n fm l).length ≤ 12 := by
  cases h : costB n fm l
  · rw [costL_no h]; exact Nat.zero_le _
  · rw [costL_yes h, List.length_map]
    unfold costB at h; simp only [Bool.and_eq_true] at h; exact demsB_len h.2.1
theorem costL_fit (n : Net) (fm : List (Int × Int)) (l : List Fib) : ∀ x ∈ costL n fm l, 0 ≤ x ∧ x ≤ 25165824 := by
  intro x hx
  cases h : costB n fm l
  · rw [costL_no h] at hx; cases hx
  · rw [costL_yes h] at hx
    obtain ⟨d, _, rfl⟩ := List.mem_map.1 hx
    exact costF_fit n fm d
def sumTo (l : List Int) : Nat → Int
  | 0 => 0
  | k + 1 => sumTo l k + l.getD k 0
theorem sumTo_step {l : List Int} {k : Nat} {x : Int} (h : l[k]? = some x) : sumTo l (k + 1) = sumTo l k + x := by
  show sumTo l k + l.getD k 0 = _; rw [List.getD_eq_getElem?_getD, h]; rfl
theorem sumTo_bd {l : List Int} (h : ∀ x ∈ l, 0 ≤ x ∧ x ≤ 25165824) : ∀ k, 0 ≤ sumTo l k ∧ sumTo l k ≤ 25165824 * (k : Int)
  | 0 => ⟨Int.le_refl _, by simp [sumTo]⟩
  | k + 1 => by
    have ih := sumTo_bd h k
    have hx : 0 ≤ l.getD k 0 ∧ l.getD k 0 ≤ 25165824 := by
      rw [List.getD_eq_getElem?_getD]
      cases e : l[k]? with
      | none => exact ⟨Int.le_refl _, by decide⟩
      | some x => exact h x (List.mem_of_getElem? e)
    show 0 ≤ sumTo l k + l.getD k 0 ∧ sumTo l k + l.getD k 0 ≤ 25165824 * ((k + 1 : Nat) : Int)
    omega
set_option maxHeartbeats 2000000 in
theorem sumInts_any (p : Option Addr) (c : Nat) (l : List Int) (w : World) (h : Ints w p l) (hn : l.length ≤ 1048576) (hb : ∀ x ∈ l, 0 ≤ x ∧ x ≤ 25165824) :
    Calls Tryz.prog 56 #[.slice p l.length c] w fun e w' => e = .returned (.int .i64 (sumTo l l.length)) ∧ Fresh w w' := by
  have HI := Lib.hid h
  have HB := Lib.hid hb
  clear h hb
  go_enter Tryz.func56, Tryz.ntmps56
  go_wp2
  go_loopw [3, 8] (fun s i wr => ∃ k : Nat, k ≤ l.length ∧ s = .int .i64 (sumTo l k) ∧ i = .int .i64 k ∧ Fresh w wr) (fun _ i _ => l.length - (intOf i).toNat)
  case atStart => exact ⟨0, Nat.zero_le _, rfl, rfl, frefl _⟩
  case round =>
    obtain ⟨k, hk, rfl, rfl, hf⟩ := hrel
    have HF := Lib.hid hf
    by_cases hlt : k < l.length
    · obtain ⟨b, off, x, rfl, hx, hc0⟩ := (HI.out.keep hf).at hlt
      have hltz : (k : Int) < (l.length : Int) := by omega
      have hb1 := sumTo_bd HB.out (k + 1)
      have HE := Lib.hid (sumTo_step hx)
      rw [HE.out] at hb1
      have w1 : IntKind.i64.wrap (sumTo l k + x) = sumTo l k + x := by rw [IntKind.wrap_i64] <;> omega
      clear hf hx hb1
      go_wp2
      go_roundw
      case rel => exact ⟨k + 1, by omega, by rw [HE.out], by go_num, HF.out⟩
      case measure => simp [intOf]; omega
    · have hkn : k = l.length := by omega
      have hltz : ¬ (k : Int) < (l.length : Int) := by omega
      have HKN := Lib.hid hkn
      clear hf hkn
      go_wp2
      go_ret
      exact ⟨by rw [HKN.out]; rfl, HF.out⟩
def OutCo (n : Net) (fm : List (Int × Int)) (l : List Fib) (w : World) (e : Ending) (w' : World) : Prop := ∃ (L : List Int) (q : Option Addr) (k : Nat), e = .returned (.tuple #[.slice q L.length k, .bool (costB n fm l)]) ∧ Own w' w.heap.size 3 q (L.map iv) ∧ (costB n fm l = true → L = costL n fm l) ∧ Fresh w w'
set_option maxHeartbeats 4000000 in
set_option maxRecDepth 20000 in
theorem costsOf_any (v : Value) (n : Net) (pf : Option Addr) (cf : Nat) (fm : List (Int × Int)) (p : Option Addr) (c : Nat) (l : List Fib) (w : World) (h : NetIn w v n) (hfm : Prs w pf fm) (hfl : fm.length ≤ 1048576) (hl : Fibs w p l) (hln : l.length ≤ 1048576) :
    Calls Tryz.prog 55 #[v, .slice pf fm.length cf, .slice p l.length c] w fun e w' => ∃ q k, e = .returned (.tuple #[.slice q (costL n fm l).length k, .bool (costB n fm l)]) ∧ Own w' w.heap.size 3 q ((costL n fm l).map iv) ∧ Fresh w w' := by
  have HN := Lib.hid h
  have HP := Lib.hid hfm
  have HL := Lib.hid hl
  obtain ⟨qn, cn, pn, cp, rfl, _, _, n1, _, _, _, _⟩ := h
  obtain ⟨W2, hW2⟩ : ∃ W, W = w.alloc (.cells #[.slice qn n.nodes.length cn, .slice pn n.fibers.length cp] 37) := ⟨_, rfl⟩
  have hf2 : Fresh w W2 := by rw [hW2]; exact fnew (frefl _) _
  have hr2 : RowAt W2 w.heap.size 37 [.slice qn n.nodes.length cn, .slice pn n.fibers.length cp] := by rw [hW2]; exact RowAt.new _ _ _
  have HF2 := Lib.hid hf2
  have HR2 := Lib.hid hr2
  have HW2 := Lib.hid hW2
  have H1 := Lib.hid (implIsValidFormats_any pf cf fm W2 (HP.out.keep hf2) hfl)
  have H2 : Hid (∀ W, Fresh W2 W → Calls Tryz.prog 71 #[.agg #[.slice qn n.nodes.length cn, .slice pn n.fibers.length cp], .slice p l.length c] W fun e w' => e = .returned (.bool (demsB n l)) ∧ Fresh W w') := fun W hW => implIsValidDemands_any _ n p c l W (HN.out.keep (fstep hf2 hW)) (HL.out.keep (fstep hf2 hW)) hln
  have H3 : Hid (∀ W d, Fresh W2 W → Calls Tryz.prog 53 #[.agg #[.slice qn n.nodes.length cn, .slice pn n.fibers.length cp], .slice pf fm.length cf, fibV d] W (OutCh n fm d W)) := fun W d hW => cheapest_any _ n pf cf fm d W (HN.out.keep (fstep hf2 hW)) (HP.out.keep (fstep hf2 hW)) hfl
  have hsz := hf2.size
  have HEND : Hid (∀ W, Fresh W2 W → costB n fm l = false → ∃ q k, Ending.returned (.tuple #[.slice none 0 0, .bool false]) = .returned (.tuple #[.slice q (costL n fm l).length k, .bool (costB n fm l)]) ∧ Own W w.heap.size 3 q ((costL n fm l).map iv) ∧ Fresh w W) := fun W hW hno => ⟨none, 0, by rw [costL_no hno, hno]; rfl, Or.inl ⟨rfl, by rw [costL_no hno]; rfl⟩, fstep HF2.out hW⟩
  clear hfm hl hf2 hr2 hW2
  go_enter Tryz.func55, Tryz.ntmps55
  go_wp2_with fail
  rw [← HW2.out]
  refine (H1.out).mono ?_
  rintro e w3 ⟨rfl, hf⟩
  have HF3 := Lib.hid hf
  have a0 := (HR2.out.keep hf).cell (i := 0) rfl
  have a1 := (HR2.out.keep hf).cell (i := 1) rfl
  clear hf H1
  cases hfv : fmtsB fm
  · have HNO := Lib.hid (costB_fm (n := n) (l := l) hfv)
    clear hfv
    go_wp2
    go_ret2
    exact HEND.out _ HF3.out HNO.out
  have HFV := Lib.hid hfv
  clear hfv
  go_wp2_with fail
  refine (H2.out _ HF3.out).mono ?_
  rintro e w4 ⟨rfl, hf⟩
  have HF4 := Lib.hid (fstep HF3.out hf)
  clear hf H2 a0 a1
  cases hdv : demsB n l
  · have HNO := Lib.hid (costB_dm (fm := fm) hdv)
    clear hdv
    go_wp2
    go_ret2
    exact HEND.out _ HF4.out HNO.out
  have HDV := Lib.hid hdv
  have hl12 := demsB_len hdv
  clear hdv
  have HO0 := Lib.hid (show (w4.alloc (.cells #[] 3)).ownsRow W2.heap.size 3 1 (.slice (some ⟨w4.heap.size, 0, none⟩) 0 0) 0 [] from ownsRow_zero (RowAt.new w4 3 []) HF4.out.size)
  have HF5 := Lib.hid (fstep HF4.out (fnew (frefl w4) (.cells #[] 3)))
  go_wp2
  go_loopw [8, 25] (fun o i wr => ∃ j : Nat, j ≤ l.length ∧ i = .int .i64 j ∧ wr.ownsRow W2.heap.size 3 1 o ((l.take j).map (costF n fm)).length (((l.take j).map (costF n fm)).map iv) ∧ Hid (∀ d ∈ l.take j, (chF n fm d).2.2 = true) ∧ Fresh W2 wr) (fun _ i _ => l.length - (intOf i).toNat)
  case atStart => exact ⟨0, Nat.zero_le _, rfl, HO0.out, (by show ∀ d ∈ _, _; intro d hd; simp at hd), HF5.out⟩
  case round =>
    obtain ⟨j, hj, rfl, hown, HALL, hf⟩ := hrel
    clear HO0
    by_cases hlt : j < l.length
    · have hltz : (j : Int) < (l.length : Int) := by omega
      obtain ⟨b, off, x0, x1, x2, x3, hpp, hx, c0, c1, c2, c3⟩ := (HL.out.keep (fstep HF2.out hf)).at hlt
      subst hpp
      have HX := Lib.hid hx
      have HTK : Hid (l.take (j + 1) = l.take j ++ [⟨x0, x1, x2, x3⟩]) := by show _ = _; rw [List.take_add_one, hx]; rfl
      obtain ⟨W5, hW5⟩ : ∃ W, W = wr.alloc (.cells #[.int .i64 x0, .int .i64 x1, .int .i64 x2, .int .i64 x3] 41) := ⟨_, rfl⟩
      have hf5 : Fresh wr W5 := by rw [hW5]; exact fnew (frefl _) _
      have HF6 := Lib.hid (fstep hf hf5)
      have HO := Lib.hid (ownsRow_keep hown hf5)
      have a0 := (HR2.out.keep hf).cell (i := 0) rfl
      have a1 := (HR2.out.keep hf).cell (i := 1) rfl
      have a0' := fun o : Obj => fkeep (fnew (frefl wr) o) a0
      have a1' := fun o : Obj => fkeep (fnew (frefl wr) o) a1
      have HW5 := Lib.hid hW5
      obtain ⟨I, hI⟩ : ∃ I, I = (l.take j).map (costF n fm) := ⟨_, rfl⟩
      have hil : I.length ≤ 12 := by rw [hI]; simp; omega
      rw [← hI] at HO
      have HII := Lib.hid hI
      have HC : Hid (Calls Tryz.prog 53 #[.agg #[.slice qn n.nodes.length cn, .slice pn n.fibers.length cp], .slice pf fm.length cf, .agg #[.int .i64 x0, .int .i64 x1, .int .i64 x2, .int .i64 x3]] W5 (OutCh n fm ⟨x0, x1, x2, x3⟩ W5)) := H3.out W5 ⟨x0, x1, x2, x3⟩ HF6.out
      have HCF := Lib.hid (costF_fit n fm ⟨x0, x1, x2, x3⟩)
      have hk24 := chF_k n fm ⟨x0, x1, x2, x3⟩
      have hsm : (chF n fm ⟨x0, x1, x2, x3⟩).1.2.length ≤ 1048576 := chF_small n fm ⟨x0, x1, x2, x3⟩
      unfold OutCh at HC
      have HCD : Hid (costF n fm ⟨x0, x1, x2, x3⟩ = (chF n fm ⟨x0, x1, x2, x3⟩).2.1 * ((chF n fm ⟨x0, x1, x2, x3⟩).1.2.length : Int)) := rfl
      obtain ⟨⟨⟨rs, rl⟩, kk, ok⟩, hch⟩ : ∃ z, z = chF n fm ⟨x0, x1, x2, x3⟩ := ⟨_, rfl⟩
      rw [← hch] at HC hk24 hsm HCD
      have HCH := Lib.hid hch
      simp only at HC hk24 hsm HCD
      clear hx hf5 hown hf hW5 hI hch
      go_wp2_with fail
      rw [← HW5.out]
      refine (HC.out).mono ?_
      rintro e w6 ⟨q, k, rfl, _, hf⟩
      have HF7 := Lib.hid (fstep HF6.out hf)
      have HO6 := Lib.hid (ownsRow_keep HO.out hf)
      clear hf c0 c1 c2 c3 a0 a1 a0' a1' HC HO HW5
      cases ok
      · have HNO : Hid (costB n fm l = false) := costB_ch HX.out (by rw [← HCH.out])
        go_wp2
        go_ret2
        exact HEND.out _ (fstep HF7.out (fnew (frefl _) _)) HNO.out
      · obtain ⟨W7, hW7⟩ : ∃ W, W = w6.alloc (.cells #[.int .i64 rs, .slice q rl.length k, .int .i64 kk] 84) := ⟨_, rfl⟩
        have hf7 : Fresh w6 W7 := by rw [hW7]; exact fnew (frefl _) _
        have HF8 := Lib.hid (fstep HF7.out hf7)
        have HO8 := Lib.hid (ownsRow_keep HO6.out hf7)
        have HCO : Hid (Calls Tryz.prog 79 #[.agg #[.int .i64 rs, .slice q rl.length k, .int .i64 kk]] W7 fun e w' => e = .returned (.int .i64 (kk * (rl.length : Int))) ∧ Fresh W7 w') := cost_any ⟨rs, q, rl.length, k, kk⟩ ⟨hk24.1, hk24.2, hsm⟩ W7
        obtain ⟨cc, hcc⟩ : ∃ z, z = kk * (rl.length : Int) := ⟨_, rfl⟩
        rw [← hcc] at HCO HCD
        have HW7 := Lib.hid hW7
        clear hf7 hW7 hcc HO6
        go_wp2_with fail
        rw [← HW7.out]
        refine (HCO.out).mono ?_
        rintro e w8 ⟨rfl, hf⟩
        have hown8 := ownsRow_keep HO8.out hf
        have HF9 := Lib.hid (fstep HF8.out hf)
        clear hf HCO HW7 hk24 hsm
        go_wp2_with (at_builtin; refine wpList_app_ints W2 w8 _ I cc rfl _ _ rfl rfl hown8 rfl (by omega) HF9.out ?_; intro v' w9 hown9 hf9)
        have HO9 := Lib.hid hown9
        have HFX := Lib.hid hf9
        clear hown8 hown9 hf9
        go_wp2
        go_roundw
        case rel =>
          refine ⟨j + 1, hlt, by go_num, ?_, ?_, HFX.out⟩
          · rw [HTK.out, List.map_append, ← HII.out]
            show World.ownsRow _ _ _ _ _ (I ++ [costF n fm ⟨x0, x1, x2, x3⟩]).length ((I ++ [costF n fm ⟨x0, x1, x2, x3⟩]).map iv)
            rw [HCD.out]
            exact HO9.out
          · show ∀ d ∈ _, _
            intro d hd
            rw [HTK.out] at hd
            rcases List.mem_append.1 hd with hd | hd
            · exact HALL.out d hd
            · rw [List.mem_singleton.1 hd, ← HCH.out]
        case measure => simp [intOf]; omega
    · have hltz : ¬ (j : Int) < (l.length : Int) := by omega
      have hje : j = l.length := by omega
      have HYES : Hid (costB n fm l = true) := costB_end HFV.out HDV.out (by have := HALL.out; rwa [hje, List.take_length] at this)
      rw [hje, List.take_length] at hown
      have HO := Lib.hid hown
      have HF := Lib.hid hf
      clear hown hf hje
      go_wp2
      go_ret2
      obtain ⟨q, k, rfl, ho⟩ := own_of_row HO.out
      rw [HYES.out, costL_yes HYES.out]
      first | exact ⟨q, k, rfl, ho.mono hsz, fstep HF2.out HF.out⟩ | exact ⟨q, ⟨k, rfl⟩, ho.mono hsz, fstep HF2.out HF.out⟩
set_option maxHeartbeats 2000000 in
set_option maxRecDepth 20000 in
theorem implCostBound_any (v : Value) (n : Net) (v1 : Value) (fm : List (Int × Int)) (v2 : Value) (l : List Fib) (w : World) (h : NetIn w v n) (h1 : FmIn w v1 fm) (h2 : DmIn w v2 l) :
    Calls Tryz.prog 32 #[v, v1, v2] w fun e w' => e = .returned (.tuple #[.int .i64 (sumTo (costL n fm l) (costL n fm l).length), .bool (costB n fm l)]) ∧ Fresh w w' := by
  obtain ⟨pf, cf, rfl, hfm, hfl⟩ := h1
  obtain ⟨p, c, rfl, hl, hln⟩ := h2
  have HN := Lib.hid h
  have HP := Lib.hid hfm
  have HL := Lib.hid hl
  obtain ⟨qn, cn, pn, cp, rfl, _, _, n1, _, _, _, _⟩ := h
  obtain ⟨W2, hW2⟩ : ∃ W, W = w.alloc (.cells #[.slice qn n.nodes.length cn, .slice pn n.fibers.length cp] 37) := ⟨_, rfl⟩
  have hf2 : Fresh w W2 := by rw [hW2]; exact fnew (frefl _) _
  have HF2 := Lib.hid hf2
  have HW2 := Lib.hid hW2
  have HC := Lib.hid (costsOf_any (.agg #[.slice qn n.nodes.length cn, .slice pn n.fibers.length cp]) n pf cf fm p c l W2 (HN.out.keep hf2) (HP.out.keep hf2) hfl (HL.out.keep hf2) hln)
  have HFIT := Lib.hid (costL_fit n fm l)
  have h12 := costL_len n fm l
  obtain ⟨L, hL⟩ : ∃ L, L = costL n fm l := ⟨_, rfl⟩
  obtain ⟨ok, hok⟩ : ∃ b, b = costB n fm l := ⟨_, rfl⟩
  rw [← hL, ← hok] at HC
  rw [← hL] at HFIT h12
  rw [← hL, ← hok]
  clear hfm hl hf2 hW2 hL hok
  go_enter Tryz.func32, Tryz.ntmps32
  go_wp2_with fail
  rw [← HW2.out]
  refine (HC.out).mono ?_
  rintro e w3 ⟨q, k, rfl, ho, hf⟩
  have HF3 := Lib.hid (fstep HF2.out hf)
  have HS := Lib.hid (sumInts_any q k L w3 ho.ints (by omega) HFIT.out)
  clear ho hf HC
  go_wp2_with fail
  refine (HS.out).mono ?_
  rintro e w4 ⟨rfl, hf⟩
  have HF4 := Lib.hid (fstep HF3.out hf)
  clear hf HS
  go_wp2
  go_ret2
  exact ⟨rfl, HF4.out⟩
end Go.Proofs.YtlcppdbpajdnlaaGreat
