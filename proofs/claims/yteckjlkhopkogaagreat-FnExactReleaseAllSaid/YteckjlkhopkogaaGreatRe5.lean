/- Contracts: all routes between two nodes, the program's side. -/
import Derived.Test.YteckjlkhopkogaaGreatRe4
import Derived.Laws.EntriesVeiled
namespace Go.Proofs.YteckjlkhopkogaaGreat
open Go.RowKit Go.PlainAid

theorem six_rows (w : World) (xs ys zz us vs ts : List Value) (t1 t2 t3 t4 t5 t6 : TypeId) : ∃ W6, W6 = (((((w.alloc (.cells xs.toArray t1)).alloc (.cells ys.toArray t2)).alloc (.cells zz.toArray t3)).alloc (.cells us.toArray t4)).alloc (.cells vs.toArray t5)).alloc (.cells ts.toArray t6) ∧ W6.heap.size = w.heap.size + 1 + 1 + 1 + 1 + 1 + 1 ∧ Fresh w W6 ∧
    RowAt W6 w.heap.size t1 xs ∧ RowAt W6 (w.heap.size + 1) t2 ys ∧ RowAt W6 (w.heap.size + 1 + 1) t3 zz ∧ RowAt W6 (w.heap.size + 1 + 1 + 1) t4 us ∧ RowAt W6 (w.heap.size + 1 + 1 + 1 + 1) t5 vs ∧ RowAt W6 (w.heap.size + 1 + 1 + 1 + 1 + 1) t6 ts := by
  obtain ⟨W3, h3, hz3, hf3, a, b, c⟩ := three_rows w xs ys zz t1 t2 t3
  obtain ⟨W6, h6, hz6, hf6, d, e, f⟩ := three_rows W3 us vs ts t4 t5 t6
  rw [hz3] at d e f hz6
  exact ⟨W6, by rw [h6, h3], hz6, fstep hf3 hf6, a.keep hf6, b.keep hf6, c.keep hf6, d, e, f⟩
theorem net_at {n : Net} (h : netB n = true) : n.nodes.length ≤ 8 ∧ n.fibers.length ≤ 14 ∧ ∀ f ∈ n.fibers, fibB n.nodes.length f = true := by
  unfold netB at h
  simp only [Bool.and_eq_true, decide_eq_true_eq, List.all_eq_true, List.mem_range] at h
  obtain ⟨⟨⟨h1, h2⟩, _⟩, h4⟩ := h
  have := inB_iff.1 h1
  refine ⟨by omega, h2, fun f hf => ?_⟩
  obtain ⟨k, hk⟩ := List.getElem?_of_mem hf
  exact fibAt_good hk (h4 k (List.getElem?_eq_some_iff.1 hk).1)
theorem net_fib {n : Net} (h : netB n = true) : ∀ f ∈ n.fibers, 0 ≤ f.a ∧ f.a < f.b ∧ f.b < (n.nodes.length : Int) := by
  intro f hf
  have := (net_at h).2.2 f hf
  unfold fibB at this
  simp only [Bool.and_eq_true, decide_eq_true_eq] at this
  exact this.1.1
theorem net_len {n : Net} (h : netB n = true) : LenOk n := by
  intro f hf
  have := (net_at h).2.2 f hf
  unfold fibB at this
  simp only [Bool.and_eq_true, inB_iff] at this
  omega
theorem walk_idx {F : List Fib} {s : Int} : ∀ {l out : List Int}, walkR F s l = some out → ∀ i ∈ l, 0 ≤ i ∧ i < (F.length : Int) := by
  intro l
  induction hn : l.length generalizing l with
  | zero =>
    intro out _ i hi
    have : l = [] := List.eq_nil_of_length_eq_zero hn
    subst this; simp at hi
  | succ n ih =>
    intro out h i hi
    have hne : l ≠ [] := by intro e; subst e; simp at hn
    have hl : l = l.dropLast ++ [l.getLast hne] := (List.dropLast_concat_getLast hne).symm
    rw [hl, walkR_snoc] at h
    cases hw : walkR F s l.dropLast with
    | none => rw [hw] at h; cases h
    | some o =>
      rw [hw] at h
      rw [hl] at hi
      rcases List.mem_append.1 hi with hi | hi
      · exact ih (l := l.dropLast) (by simp [hn]) hw i hi
      · simp only [List.mem_singleton] at hi
        subst hi
        simp only [Option.bind_some] at h
        unfold stepR at h
        split at h
        · next hb => have := inB_iff.1 hb; omega
        · cases h
theorem raw_ok {n : Net} {s t : Int} (h : netB n = true) (hs : 0 ≤ s ∧ s < (n.nodes.length : Int)) {R : Int × List Int} (hR : R ∈ rawR n s t) : RtOk n R.2 := by
  obtain ⟨_, _, out, h1, _⟩ := rawR_mem hR
  obtain ⟨a, b, c⟩ := wkIn (net_fib h) hs h1
  have := nodup_le a b
  have h8 := (net_at h).1
  exact ⟨walk_idx h1, by omega⟩
theorem raw_many {n : Net} {s t : Int} (h : netB n = true) : (rawR n s t).length ≤ 1099511627775 := by
  obtain ⟨h1, h2, _⟩ := net_at h
  unfold rawR
  split
  · simp
  · rw [List.length_map]
    refine Nat.le_trans dfs_many ?_
    refine Nat.le_trans (Nat.pow_le_pow_left (by omega : n.fibers.length + 1 ≤ 15) _) ?_
    exact Nat.le_trans (Nat.pow_le_pow_right (by omega) h1) (by decide)
set_option maxHeartbeats 4000000 in
set_option maxRecDepth 100000 in
theorem routesBetween_any (v : Value) (n : Net) (s t : Int) (w : World) (h : NetIn w v n) (hnet : netB n = true) (hs : 0 ≤ s ∧ s < (n.nodes.length : Int)) :
    Calls Tryz.prog 194 #[v, .int .i64 s, .int .i64 t] w fun e w' => ∃ (V : Value) (l : List LR), e = .returned V ∧ Rts w' w.heap.size V l ∧ l.map LR.val = allR n s t ∧ Fresh w w' := by
  have HN := Lib.hid h
  have HNET := Lib.hid hnet
  have HSI := Lib.hid hs
  have hmf : ∀ (fn : Fn) (first cap : Array Value) (w : World), (Instr.makeFunc fn first cap).run Tryz.prog w = .ok (.func fn first cap) w := fun _ _ _ _ => rfl
  obtain ⟨qn, cn, pn, cp, rfl, _, hF, _, _, _, _, _⟩ := h
  obtain ⟨h8, h14, _⟩ := net_at hnet
  obtain ⟨W6, hW6, hsz6, hf6, r1, r2, r3, r4, r5, r6⟩ := six_rows w [.slice qn n.nodes.length cn, .slice pn n.fibers.length cp] [.int .i64 s] [.int .i64 t] [] [.slice (some ⟨w.heap.size + 1 + 1 + 1, 0, none⟩) 0 0]
    [.func (.func 212) #[] #[.pointer (some ⟨w.heap.size + 1 + 1, 0, none⟩), .pointer (some ⟨w.heap.size + 1 + 1 + 1 + 1, 0, none⟩), .pointer (some ⟨w.heap.size + 1, 0, none⟩), .pointer (some ⟨w.heap.size, 0, none⟩), .pointer (some ⟨w.heap.size + 1 + 1 + 1 + 1 + 1, 0, none⟩)]] 35 3 3 90 137 227
  have hst6 : ReSt w W6 (w.heap.size + 1 + 1) (w.heap.size + 1 + 1 + 1 + 1) (w.heap.size + 1) w.heap.size (w.heap.size + 1 + 1 + 1 + 1 + 1) qn pn cn cp n s t [] :=
    ⟨hf6, ⟨_, [], r5, Rts.nil _ _ (ownsRow_zero r4 (by omega)), rfl⟩, r3, r2, r1, r6⟩
  have HS6 := Lib.hid hst6
  have HW6 := Lib.hid hW6
  have HFI := Lib.hid hF
  clear hst6 hf6 r1 hW6 hF
  by_cases hst : s = t
  · have hz : (s != t) = false := by simp [hst]
    have hraw : rawR n s t = [] := by unfold rawR; rw [if_pos hst]
    have hsort := sortRts_any w W6 w.heap.size qn pn n.nodes.length cn n.fibers.length cp (.slice (some ⟨w.heap.size + 1 + 1 + 1, 0, none⟩) 0 0) n [] (Rts.nil _ _ (ownsRow_zero r4 (by omega))) HS6.out.fr HN.out HS6.out.ne (by intro x hx; simp at hx) (net_len hnet) (by simp) (by simp)
    have HSORT := Lib.hid hsort
    have hraw2 : allR n s t = [] := by unfold allR; rw [hraw]; exact List.mergeSort_nil
    have HRAW := Lib.hid hraw2
    have HRO1 := Lib.hid r5
    clear hst hraw hraw2 hsort r2 r3 r4 r5 r6 hnet hs
    focus
      go_enter Tryz.func194, Tryz.ntmps194
      go_wp2_with fail
      rw [← HW6.out]
      refine (HSORT.out).mono ?_
      rintro e w2 ⟨rfl, l', hr2, hv2, hf2, hk2⟩
      have y2 := (hk2 _ _ _ HRO1.out (by decide)).cell (i := 0) rfl
      have HR2 := Lib.hid hr2
      have HF2 := Lib.hid hf2
      have HV2 := Lib.hid hv2
      clear hr2 hv2 hf2 hk2 HSORT
      go_wp2
      go_ret
      exact ⟨_, l', rfl, HR2.out, by rw [HV2.out, HRAW.out]; exact List.mergeSort_nil, HF2.out⟩
  · have hz : (s != t) = true := by simp [hst]
    obtain ⟨x, rfl⟩ : ∃ x : Nat, s = (x : Int) := ⟨s.toNat, by omega⟩
    have hx8 : x < 8 := by omega
    have hx0 : (0 : Int) ≤ (x : Int) := by omega
    have hshl : wrap64 (2 ^ x) = ((2 ^ x : Nat) : Int) := by
      have h1 : (2 : Nat) ^ x ≤ 128 := Nat.pow_le_pow_right (by omega) (by omega : x ≤ 7)
      have h2 : ∀ p : Nat, p ≤ 128 → wrap64 (p : Int) = (p : Int) := by intro p hp; unfold wrap64; omega
      rw [show ((2 : Int) ^ x) = ((2 ^ x : Nat) : Int) by rw [Int.natCast_pow]; rfl]
      exact h2 _ h1
    have hraw : rawR n (x : Int) t = (dfsR n.fibers t n.nodes.length [(x : Int)] []).map fun L => ((x : Int), L) := by unfold rawR; rw [if_neg hst]
    have hmany := raw_many (s := (x : Int)) (t := t) hnet
    rw [hraw, List.length_map] at hmany
    have HC : Hid (∀ W, Fresh W6 W → Calls Tryz.prog 212 #[.int .i64 (x : Int), .int .i64 ((2 ^ x : Nat) : Int), .slice none 0 0, .pointer (some ⟨w.heap.size + 1 + 1, 0, none⟩), .pointer (some ⟨w.heap.size + 1 + 1 + 1 + 1, 0, none⟩), .pointer (some ⟨w.heap.size + 1, 0, none⟩), .pointer (some ⟨w.heap.size, 0, none⟩), .pointer (some ⟨w.heap.size + 1 + 1 + 1 + 1 + 1, 0, none⟩)] W fun e w' =>
        e = .returned (.tuple #[]) ∧ ReSt w w' (w.heap.size + 1 + 1) (w.heap.size + 1 + 1 + 1 + 1) (w.heap.size + 1) w.heap.size (w.heap.size + 1 + 1 + 1 + 1 + 1) qn pn cn cp n (x : Int) t (rawR n (x : Int) t)) := by
      intro W hW
      rw [hraw]
      have := reClo_any w (w.heap.size + 1 + 1) (w.heap.size + 1 + 1 + 1 + 1) (w.heap.size + 1) w.heap.size (w.heap.size + 1 + 1 + 1 + 1 + 1) qn pn cn cp n (x : Int) t HFI.out h14 h8 (net_fib HNET.out) (by omega) (by omega) (by omega) (by omega) (by omega)
        n.nodes.length [(x : Int)] [] (2 ^ x) none 0 [] W (HS6.out.keep hW) (Or.inl ⟨rfl, rfl⟩) (Nat.le_refl _) (by omega) (mask_one hx8) (by simp) (by intro y hy; simp at hy; subst hy; exact hs) (by simp; omega) rfl (by simpa using hmany)
      exact this.mono fun e w' ⟨h1, h2, _⟩ => ⟨h1, by simpa using h2⟩
    rw [← hshl] at HC
    have HSHL := Lib.hid hshl
    have c1 := r2.cell (i := 0) rfl
    have c6 := r6.cell (i := 0) rfl
    clear hst hraw hmany r2 r3 r4 r5 r6 hnet hs hshl
    focus
      go_enter Tryz.func194, Tryz.ntmps194
      go_wp2
      rw [← HW6.out]
      refine hd_start (n := 4) (S := fun w' => w'.cell? ⟨w.heap.size + 1, 0, none⟩ = some (.int .i64 (x : Int)) ∧ w'.cell? ⟨w.heap.size + 1 + 1 + 1 + 1 + 1, 0, none⟩ = some (.func (.func 212) #[] #[.pointer (some ⟨w.heap.size + 1 + 1, 0, none⟩), .pointer (some ⟨w.heap.size + 1 + 1 + 1 + 1, 0, none⟩), .pointer (some ⟨w.heap.size + 1, 0, none⟩), .pointer (some ⟨w.heap.size, 0, none⟩), .pointer (some ⟨w.heap.size + 1 + 1 + 1 + 1 + 1, 0, none⟩)])) (by kernel_rfl) (by kernel_rfl) ⟨fkeep (fdrew (frefl _)) c1, fkeep (fdrew (frefl _)) c6⟩ (fun hHeld => ?_)
      refine hd_take (i := 0) (v := ?_) rfl (by kernel_rfl) (by kernel_rfl) (by kernel_rfl) (by kernel_rfl) (fun _ _ _ h => h) (by assumption) (Or.inl ⟨by rfl, ?_⟩) ?_
      rotate_left
      · (intro w hSw; (try dsimp only at hSw); go_simp; first | done | with_reducible rfl)
      try simp only [Act.put, List.getElem_toArray, List.getElem_cons_zero, List.setIfInBounds_toArray, List.set_cons_zero, List.set_cons_succ]
      refine hd_take (i := 1) (v := ?_) rfl (by kernel_rfl) (by kernel_rfl) (by kernel_rfl) (by kernel_rfl) (fun _ _ _ h => h) (by assumption) (Or.inl ⟨by rfl, ?_⟩) ?_
      rotate_left
      · (intro w hSw; (try dsimp only at hSw); go_simp; first | done | with_reducible rfl)
      try simp only [Act.put, List.getElem_toArray, List.getElem_cons_succ, List.getElem_cons_zero, List.setIfInBounds_toArray, List.set_cons_zero, List.set_cons_succ]
      refine hd_take (i := 2) (v := ?_) rfl (by kernel_rfl) (by kernel_rfl) (by kernel_rfl) (by kernel_rfl) (fun _ _ _ h => h) (by assumption) (Or.inl ⟨by rfl, ?_⟩) ?_
      rotate_left
      · (intro w hSw; (try dsimp only at hSw); go_simp; first | done | with_reducible rfl)
      try simp only [Act.put, List.getElem_toArray, List.getElem_cons_succ, List.getElem_cons_zero, List.setIfInBounds_toArray, List.set_cons_zero, List.set_cons_succ]
      refine hd_take (i := 3) (v := ?_) rfl (by kernel_rfl) (by kernel_rfl) (by kernel_rfl) (by kernel_rfl) (fun _ _ _ h => h) (by assumption) (Or.inl ⟨by rfl, ?_⟩) ?_
      rotate_left
      · (intro w hSw; (try dsimp only at hSw); go_simp; first | done | with_reducible rfl)
      try simp only [Act.put, List.getElem_toArray, List.getElem_cons_succ, List.getElem_cons_zero, List.setIfInBounds_toArray, List.set_cons_zero, List.set_cons_succ]
      refine hd_done (by kernel_rfl) ?_
      clear hHeld c1 c6
      simp only [List.drop_succ_cons, List.drop_zero]
      go_wp2_with fail
      refine (HC.out _ (fdrew (frefl _))).mono ?_
      rintro e w1 ⟨rfl, hs1⟩
      have HS1 := Lib.hid hs1
      clear hs1 HC
      obtain ⟨fr1, ⟨V, l, ro1, rts1, hval1⟩, _, _, rn1, _⟩ := HS1.out
      have hvl : ∀ x ∈ l, RtOk n x.fibs := fun x hx => raw_ok HNET.out HSI.out (by rw [← hval1]; exact List.mem_map_of_mem hx)
      have hll : l.length ≤ 1099511627775 := by have := congrArg List.length hval1; rw [List.length_map] at this; rw [this]; exact raw_many HNET.out
      have HSORT := Lib.hid (sortRts_any w w1 w.heap.size qn pn n.nodes.length cn n.fibers.length cp V n l rts1 fr1 HN.out rn1 hvl (net_len HNET.out) (by rw [hval1]; exact rawR_nodup n (x : Int) t) hll)
      have y0 := ro1.cell (i := 0) rfl
      have HRO1 := Lib.hid ro1
      have HVL := Lib.hid hval1
      clear fr1 ro1 rts1 hval1 rn1 hvl hll
      go_wp2_with fail
      refine (HSORT.out).mono ?_
      rintro e w2 ⟨rfl, l', hr2, hv2, hf2, hk2⟩
      have y2 := (hk2 _ _ _ HRO1.out (by decide)).cell (i := 0) rfl
      have HR2 := Lib.hid hr2
      have HF2 := Lib.hid hf2
      have HV2 := Lib.hid hv2
      clear hr2 hv2 hf2 hk2 HSORT y0
      go_wp2
      go_ret
      exact ⟨V, l', rfl, HR2.out, by rw [HV2.out, HVL.out]; rfl, HF2.out⟩
end Go.Proofs.YteckjlkhopkogaaGreat
