/- Contracts: disjoint routes, the reference's side. -/
import Derived.Test.YtlapicgeokjpjaaDj
namespace Go.Proofs.Ytlapicgeokjpjaa
open Go.RowKit Go.PlainAid

/-- The elements of a list with some left out on both sides. -/
def midL (x : List Int) (k : Nat) : List Int := (x.drop k).take (x.length - 2 * k)
theorem midL_zero (x : List Int) : midL x 0 = x := by unfold midL; simp
theorem midL_one (x : List Int) : midL x 1 = (x.drop 1).dropLast := by
  unfold midL
  rw [List.dropLast_eq_take]
  congr 1
  simp; omega
theorem midL_get {x : List Int} {k _j : Nat} {i : Int} : i ∈ midL x k ↔ ∃ j, k ≤ j ∧ j + k < x.length ∧ x[j]? = some i := by
  unfold midL
  rw [List.mem_iff_getElem?]
  constructor
  · rintro ⟨m, hm⟩
    rw [List.getElem?_take] at hm
    split at hm
    · rw [List.getElem?_drop] at hm
      exact ⟨k + m, by omega, by omega, hm⟩
    · cases hm
  · rintro ⟨j, h1, h2, h3⟩
    refine ⟨j - k, ?_⟩
    rw [List.getElem?_take, if_pos (by omega), List.getElem?_drop, show k + (j - k) = j by omega]
    exact h3
set_option maxHeartbeats 2000000 in
theorem l7Share_any (p q : Option Addr) (c d : Nat) (a b : List Int) (k : Nat) (w : World) (ha : Ints w p a) (hb : Ints w q b) (na : a.length ≤ 1048576) (nb : b.length ≤ 1048576) (hk : k ≤ 1) :
    Calls Try.prog 27 #[.slice p a.length c, .slice q b.length d, .int .i64 (k : Int)] w fun e w' => e = .returned (.bool ((midL a k).any fun i => decide (i ∈ b))) ∧ w = w' := by
  have hw1 : IntKind.i64.wrap ((a.length : Int) - (k : Int)) = (a.length : Int) - (k : Int) := by rw [IntKind.wrap_i64]; omega
  have HB := Lib.hid hb
  go_enter Try.func27, Try.ntmps27
  go_wp2
  go_loop [7] (fun i => ∃ j : Nat, i = .int .i64 j ∧ (j = k ∨ (k ≤ j ∧ j + k ≤ a.length)) ∧ ∀ m x, k ≤ m → m < j → a[m]? = some x → x ∉ b) (fun i => a.length - (intOf i).toNat)
  case atStart => exact ⟨k, rfl, Or.inl rfl, fun m x h1 h2 => by omega⟩
  case round =>
    obtain ⟨j, rfl, hj, hno⟩ := hrel
    have HNO := Lib.hid hno
    clear hno
    by_cases hlt : j + k < a.length
    · have hltz : (j : Int) < (a.length : Int) - (k : Int) := by omega
      obtain ⟨b1, off, x, rfl, hx, hc⟩ := ha.at (show j < a.length by omega)
      have HX := Lib.hid hx
      have HH := Lib.hid (l1Has_any q d b x w HB.out (by omega))
      have hja : (j : Int) < (a.length : Int) := by omega
      clear hx ha hb
      by_cases hm : x ∈ b
      · have hd : decide (x ∈ b) = true := decide_eq_true hm
        have HR : Hid ((midL a k).any (fun i => decide (i ∈ b)) = true) := by
          show _ = _
          rw [List.any_eq_true]
          exact ⟨x, midL_get (_j := 0) |>.2 ⟨j, by omega, hlt, HX.out⟩, hd⟩
        clear hm
        go_wp2_with (go_at_call 49; refine (HH.out).mono ?_; rintro e w6 ⟨rfl, rfl⟩)
        go_ret
        exact ⟨ret_bool HR.out.symm, rfl⟩
      · have hd : decide (x ∈ b) = false := decide_eq_false hm
        have HNO2 : Hid (∀ m x, k ≤ m → m < j + 1 → a[m]? = some x → x ∉ b) := by
          intro m y h1 h2 h3
          rcases Nat.eq_or_lt_of_le (show m ≤ j by omega) with h4 | h4
          · subst h4
            rw [HX.out] at h3
            cases h3; exact hm
          · exact HNO.out m y h1 h4 h3
        clear hm
        go_wp2_with (go_at_call 49; refine (HH.out).mono ?_; rintro e w6 ⟨rfl, rfl⟩)
        go_round
        case rel => exact ⟨j + 1, by go_num, Or.inr ⟨by omega, by omega⟩, HNO2.out⟩
        case measure => simp [intOf]; omega
    · have hltz : ¬ (j : Int) < (a.length : Int) - (k : Int) := by omega
      have HR : Hid ((midL a k).any (fun i => decide (i ∈ b)) = false) := by
        show _ = _
        rw [List.any_eq_false]
        intro x hx
        obtain ⟨m, h1, h2, h3⟩ := midL_get (_j := 0) |>.1 hx
        simpa using HNO.out m x h1 (by omega) h3
      clear ha hb
      go_wp2
      go_ret
      exact ⟨ret_bool HR.out.symm, rfl⟩
set_option maxHeartbeats 2000000 in
theorem l4Nodes_any (v : Value) (n : Net) (s t : Int) (q : Option Addr) (c : Nat) (a : List Int) (w : World) (h : NetIn w v n) (hnet : netB n = true) (hs : 0 ≤ s ∧ s < (n.nodes.length : Int)) (ga : RtGood n s t a) (ha : Ints w q a) :
    Calls Try.prog 36 #[v, .agg #[.int .i64 s, .slice q a.length c]] w (OutInts w (nodesR n s a)) := by
  have HN := Lib.hid h
  have HA := Lib.hid ha
  have HOA := Lib.hid (rt_ok hnet hs ga)
  have HNA := Lib.hid (nodes_at hnet hs ga)
  have hinb : inB s 0 ((n.nodes.length : Int) - 1) = true := inB_iff.2 (by omega)
  have HVA : Hid (visR n.nodes.length n.fibers s a = some (nodesR n s a)) := by
    show _ = _; rw [visR_go hinb (by intro e; exact ga.1 (List.eq_nil_of_length_eq_zero e))]; exact HNA.out.1
  obtain ⟨qn, cn, pn, cp, rfl, _, _, n1, _, _, _, _⟩ := h
  obtain ⟨W2, hW2, hsz2, hf2, r1, r2⟩ := two_rows w [.slice qn n.nodes.length cn, .slice pn n.fibers.length cp] [.int .i64 s, .slice q a.length c] 27 30
  have HF2 := Lib.hid hf2
  have HW2 := Lib.hid hW2
  have HV := Lib.hid (l4Walk_any _ n s q c a W2 (HN.out.keep hf2) (HA.out.keep hf2) HOA.out.2)
  rw [HVA.out] at HV
  clear ha ga hs hnet hinb hf2 hW2 hsz2 r1 r2
  go_enter Try.func36, Try.ntmps36
  go_wp2_with fail
  rw [← HW2.out]
  refine (HV.out).mono ?_
  rintro e w4 ⟨px, cx, xs, rfl, hf4, hx⟩
  obtain ⟨rfl, hxo⟩ := hx _ rfl
  have HF4 := Lib.hid (fstep HF2.out hf4)
  have HX4 := Lib.hid (hxo.mono HF2.out.size)
  clear hf4 hx hxo HV
  go_wp2
  go_ret
  exact ⟨px, cx, rfl, HX4.out, HF4.out⟩
set_option maxHeartbeats 4000000 in
set_option maxRecDepth 20000 in
theorem l7Apart_any (v : Value) (n : Net) (s t : Int) (qa qb : Option Addr) (ca cb : Nat) (a b : List Int) (k : Int) (w : World) (h : NetIn w v n) (hnet : netB n = true) (hs : 0 ≤ s ∧ s < (n.nodes.length : Int)) (hk : 1 ≤ k ∧ k ≤ 3) (ga : RtGood n s t a) (gb : RtGood n s t b) (ha : Ints w qa a) (hb : Ints w qb b) :
    Calls Try.prog 23 #[v, .agg #[.int .i64 s, .slice qa a.length ca], .agg #[.int .i64 s, .slice qb b.length cb], .int .i64 k] w fun e w' => e = .returned (.bool (disjB n s a b k)) ∧ Fresh w w' := by
  have HN := Lib.hid h
  have HA := Lib.hid ha
  have HB := Lib.hid hb
  have HOA := Lib.hid (rt_ok hnet hs ga)
  have HOB := Lib.hid (rt_ok hnet hs gb)
  have HNA := Lib.hid (nodes_at hnet hs ga)
  have HNB := Lib.hid (nodes_at hnet hs gb)
  obtain ⟨qn, cn, pn, cp, rfl, _, _, n1, _, _, _, _⟩ := h
  obtain ⟨W3, hW3, hsz3, hf3, r1, r2, r3⟩ := three_rows w [.slice qn n.nodes.length cn, .slice pn n.fibers.length cp] [.int .i64 s, .slice qa a.length ca] [.int .i64 s, .slice qb b.length cb] 27 30 30
  have HF3 := Lib.hid hf3
  have HW3 := Lib.hid hW3
  have HR1 := Lib.hid r1
  have HR2 := Lib.hid r2
  have HR3 := Lib.hid r3
  have HGA := Lib.hid ga
  have HGB := Lib.hid gb
  have HNET := Lib.hid hnet
  have HS := Lib.hid hs
  have HSH : Hid (∀ W, Fresh W3 W → Calls Try.prog 27 #[.slice qa a.length ca, .slice qb b.length cb, .int .i64 0] W fun e w' => e = .returned (.bool (usesB a b)) ∧ W = w') := fun W hW => by
    have := l7Share_any qa qb ca cb a b 0 W ((HA.out.keep HF3.out).keep hW) ((HB.out.keep HF3.out).keep hW) HOA.out.2 HOB.out.2 (by omega)
    rw [midL_zero] at this
    exact this
  by_cases h1 : k = 1
  · subst h1
    have HD : Hid (disjB n s a b 1 = !usesB a b) := by show _ = _; unfold disjB; rw [if_neg (by omega)]; simp
    clear ha hb ga gb hs hnet hk hf3 hW3 hsz3 r1 r2 r3
    go_enter Try.func23, Try.ntmps23
    go_wp2_with fail
    rw [← HW3.out]
    refine (HSH.out _ (frefl _)).mono ?_
    rintro e w4 ⟨rfl, rfl⟩
    go_wp2
    go_ret
    exact ⟨ret_bool HD.out.symm, HF3.out⟩
  · by_cases h2 : k = 2
    · subst h2
      have HAP := Lib.hid (l4Apart_any _ n s s qa qb ca cb a b W3 (HN.out.keep hf3) (net_at hnet).2.1 (HA.out.keep hf3) HOA.out.2 (HB.out.keep hf3) HOB.out.2 HOA.out.1 HOB.out.1)
      have HD : Hid (disjB n s a b 2 = apartF n.fibers a b) := by show _ = _; unfold disjB; rw [if_pos rfl]
      clear ha hb ga gb hs hnet hk hf3 hW3 hsz3 r1 r2 r3 h1
      go_enter Try.func23, Try.ntmps23
      go_wp2_with fail
      rw [← HW3.out]
      refine (HAP.out).mono ?_
      rintro e w4 ⟨rfl, hf⟩
      have HF := Lib.hid hf
      clear hf
      go_wp2
      go_ret
      exact ⟨ret_bool HD.out.symm, fstep HF3.out HF.out⟩
    · have h3 : k = 3 := by omega
      subst h3
      have HD : Hid (disjB n s a b 3 = (!usesB a b && !shareB (nodesR n s a) (nodesR n s b))) := by show _ = _; unfold disjB; rw [if_neg (by omega)]; simp
      have c0 := r1.cell (i := 0) rfl
      have c1 := r1.cell (i := 1) rfl
      have c2 := r2.cell (i := 0) rfl
      have c3 := r2.cell (i := 1) rfl
      have c4 := r3.cell (i := 0) rfl
      have c5 := r3.cell (i := 1) rfl
      clear ha hb ga gb hs hnet hk hf3 hsz3 r1 r2 r3 h1 h2
      cases hu : usesB a b
      · rw [hu] at HD HSH
        go_enter Try.func23, Try.ntmps23
        go_wp2
        rw [← HW3.out]
        have HNO : Hid (∀ W (q : Option Addr) (c : Nat) (l : List Int), Fresh W3 W → RtGood n s t l → Ints W3 q l → Calls Try.prog 36 #[.agg #[.slice qn n.nodes.length cn, .slice pn n.fibers.length cp], .agg #[.int .i64 s, .slice q l.length c]] W (OutInts W (nodesR n s l))) := fun W q c l hW g hl => l4Nodes_any _ n s t q c l W ((HN.out.keep HF3.out).keep hW) HNET.out HS.out g (hl.keep hW)
        refine hd_start (n := 16) (S := fun w' => w'.cell? ⟨w.heap.size, 0, none⟩ = some (.slice qn n.nodes.length cn) ∧ w'.cell? ⟨w.heap.size, 1, none⟩ = some (.slice pn n.fibers.length cp) ∧ w'.cell? ⟨w.heap.size + 1, 0, none⟩ = some (.int .i64 s) ∧ w'.cell? ⟨w.heap.size + 1, 1, none⟩ = some (.slice qa a.length ca) ∧ w'.cell? ⟨w.heap.size + 1 + 1, 0, none⟩ = some (.int .i64 s) ∧ w'.cell? ⟨w.heap.size + 1 + 1, 1, none⟩ = some (.slice qb b.length cb)) (by kernel_rfl) (by kernel_rfl) ⟨fkeep (fdrew (frefl _)) c0, fkeep (fdrew (frefl _)) c1, fkeep (fdrew (frefl _)) c2, fkeep (fdrew (frefl _)) c3, fkeep (fdrew (frefl _)) c4, fkeep (fdrew (frefl _)) c5⟩ (fun hHeld => ?_)
        obtain ⟨W4, hW4⟩ : ∃ W, W = W3.drew := ⟨_, rfl⟩
        rw [← hW4] at hHeld ⊢
        have f4 : Fresh W3 W4 := by rw [hW4]; exact fdrew (frefl _)
        clear hW4
        refine hd_tk (i := 0) (v := ?_) rfl ?_ ?_
        rotate_left
        · (intro w hSw; (try dsimp only at hSw); go_simp; first | done | with_reducible rfl)
        try simp only [PU]
        refine hd_tk (i := 1) (v := ?_) rfl ?_ ?_
        rotate_left
        · (intro w hSw; (try dsimp only at hSw); go_simp; first | done | with_reducible rfl)
        try simp only [PU]
        refine hd_tk (i := 2) (v := ?_) rfl ?_ ?_
        rotate_left
        · (intro w hSw; (try dsimp only at hSw); go_simp; first | done | with_reducible rfl)
        try simp only [PU]
        refine hd_tk (i := 3) (v := ?_) rfl ?_ ?_
        rotate_left
        · (intro w hSw; (try dsimp only at hSw); go_simp; first | done | with_reducible rfl)
        try simp only [PU]
        refine hd_one (i := 4) rfl (by kernel_rfl) (by kernel_rfl) (fun K hK => ?_)
        (go_simp; go_at_call 27; refine (HSH.out _ f4).mono ?_; rintro e w4 ⟨rfl, rfl⟩; go_wp2_with fail)
        refine hK.out _ _ ?_ (fun hHeld => ?_)
        · exact hHeld
        clear hK K
        try simp only [PU]
        refine hd_tk (i := 5) (v := ?_) rfl ?_ ?_
        rotate_left
        · (intro w hSw; (try dsimp only at hSw); go_simp; first | done | with_reducible rfl)
        try simp only [PU]
        refine hd_tk (i := 6) (v := ?_) rfl ?_ ?_
        rotate_left
        · (intro w hSw; (try dsimp only at hSw); go_simp; first | done | with_reducible rfl)
        try simp only [PU]
        refine hd_tk (i := 7) (v := ?_) rfl ?_ ?_
        rotate_left
        · (intro w hSw; (try dsimp only at hSw); go_simp; first | done | with_reducible rfl)
        try simp only [PU]
        refine hd_tk (i := 8) (v := ?_) rfl ?_ ?_
        rotate_left
        · (intro w hSw; (try dsimp only at hSw); go_simp; first | done | with_reducible rfl)
        try simp only [PU]
        refine hd_tk (i := 10) (v := ?_) rfl ?_ ?_
        rotate_left
        · (intro w hSw; (try dsimp only at hSw); go_simp; first | done | with_reducible rfl)
        try simp only [PU]
        refine hd_tk (i := 11) (v := ?_) rfl ?_ ?_
        rotate_left
        · (intro w hSw; (try dsimp only at hSw); go_simp; first | done | with_reducible rfl)
        try simp only [PU]
        refine hd_one (i := 9) rfl (by kernel_rfl) (by kernel_rfl) (fun K hK => ?_)
        (go_simp; go_at_call 36; refine (HNO.out _ _ _ _ f4 HGA.out (HA.out.keep HF3.out)).mono ?_; rintro e w5 ⟨p5, c5', rfl, ho5, hf5⟩; have f5 : Fresh W3 w5 := fstep f4 hf5; go_wp2_with fail)
        refine hK.out _ _ ?_ (fun hHeld => ?_)
        · exact ⟨fkeep f5 c0, fkeep f5 c1, fkeep f5 c2, fkeep f5 c3, fkeep f5 c4, fkeep f5 c5⟩
        clear hK K
        try simp only [PU]
        refine hd_one (i := 12) rfl (by kernel_rfl) (by kernel_rfl) (fun K hK => ?_)
        (go_simp; go_at_call 36; refine (HNO.out _ _ _ _ f5 HGB.out (HB.out.keep HF3.out)).mono ?_; rintro e w6 ⟨p6, c6', rfl, ho6, hf6⟩; have f6 : Fresh W3 w6 := fstep f5 hf6; have ho5' := ho5.keep hf6; go_wp2_with fail)
        refine hK.out _ _ ?_ (fun hHeld => ?_)
        · exact ⟨fkeep f6 c0, fkeep f6 c1, fkeep f6 c2, fkeep f6 c3, fkeep f6 c4, fkeep f6 c5⟩
        clear hK K
        try simp only [PU]
        have HSX : Hid (Calls Try.prog 27 #[.slice p5 (nodesR n s a).length c5', .slice p6 (nodesR n s b).length c6', .int .i64 1] w6 fun e w' => e = .returned (.bool (shareB (nodesR n s a) (nodesR n s b))) ∧ w6 = w') := by
          have := l7Share_any p5 p6 c5' c6' _ _ 1 w6 ho5'.ints ho6.ints (by have := HNA.out.2.2.2.1; omega) (by have := HNB.out.2.2.2.1; omega) (by omega)
          rw [midL_one] at this
          exact this
        have HF6 := Lib.hid f6
        refine hd_one (i := 13) rfl (by kernel_rfl) (by kernel_rfl) (fun K hK => ?_)
        (go_simp; go_at_call 27; refine (HSX.out).mono ?_; rintro e w7 ⟨rfl, rfl⟩; go_wp2_with fail)
        refine hK.out _ _ ?_ (fun hHeld => ?_)
        · exact hHeld
        clear hK K
        try simp only [PU]
        refine hd_tk (i := 14) (v := ?_) rfl ?_ ?_
        rotate_left
        · (intro w hSw; (try dsimp only at hSw); go_simp; first | done | with_reducible rfl)
        try simp only [PU]
        refine hd_tk (i := 15) (v := ?_) rfl ?_ ?_
        rotate_left
        · (intro w hSw; (try dsimp only at hSw); go_simp; first | done | with_reducible rfl)
        try simp only [PU]
        refine hd_done (by kernel_rfl) ?_
        clear hHeld c0 c1 c2 c3 c4 c5
        simp only [List.drop_succ_cons, List.drop_zero]
        go_wp2
        go_ret
        exact ⟨ret_bool (by rw [HD.out]; rfl), fstep HF3.out HF6.out⟩
      · rw [hu] at HD HSH
        go_enter Try.func23, Try.ntmps23
        go_wp2
        rw [← HW3.out]
        refine wp_region_after (by kernel_rfl) (by kernel_rfl) ?_
        have d3 := fun xa : After W3 => akeep c3 xa
        have d5 := fun xa : After W3 => akeep c5 xa
        have HSA : Hid (∀ xa : After W3, Calls Try.prog 27 #[.slice qa a.length ca, .slice qb b.length cb, .int .i64 0] xa.w' fun e w' => e = .returned (.bool true) ∧ Fresh xa.w' w') := fun xa => (HSH.out _ xa.h).mono fun e w' h => ⟨h.1, by rw [← h.2]; exact frefl _⟩
        repeat (go_big_quiet_step ((go_at_call 27; exact after_call (HSA.out _))))
        refine wpQuiet_nil ?_
        rintro _ ⟨xa, rfl⟩
        go_wp2
        go_ret
        exact ⟨ret_bool (by rw [HD.out]; rfl), fstep HF3.out xa.h⟩
end Go.Proofs.Ytlapicgeokjpjaa
