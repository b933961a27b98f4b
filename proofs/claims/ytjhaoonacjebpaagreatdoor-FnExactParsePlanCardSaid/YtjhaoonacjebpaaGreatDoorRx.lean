/- Contracts: the text of a route, both sides. -/
import Derived.Test.YtjhaoonacjebpaaGreatDoorFn
import Derived.BigQuiet
namespace Go.Proofs.YtjhaoonacjebpaaGreatDoor
open Go.RowKit Go.PlainAid

theorem stepR_inX {N : Int} {F : List Fib} {out o2 : List Int} {i : Int} (hF : ∀ f ∈ F, 0 ≤ f.a ∧ f.a < f.b ∧ f.b < N) (h : stepR F out i = some o2) : ∃ x, o2 = out ++ [x] ∧ 0 ≤ x ∧ x < N ∧ x ∉ out := by
  unfold stepR at h
  split at h
  · split at h
    · next f hf =>
      split at h
      · cases h
      · next hn =>
        cases h
        refine ⟨_, rfl, by omega, ?_, fun e => hn (Or.inr e)⟩
        have := hF f (List.mem_of_getElem? hf)
        unfold other; split <;> (try split) <;> omega
    · cases h
  · cases h
theorem walkR_snocX (F : List Fib) (s : Int) (fs : List Int) (i : Int) : walkR F s (fs ++ [i]) = (walkR F s fs).bind fun out => stepR F out i := by unfold walkR; rw [List.foldl_append]; rfl
theorem wkInX {N : Int} {F : List Fib} {s : Int} (hF : ∀ f ∈ F, 0 ≤ f.a ∧ f.a < f.b ∧ f.b < N) (hs : 0 ≤ s ∧ s < N) : ∀ {l out : List Int}, walkR F s l = some out → out.Nodup ∧ (∀ x ∈ out, 0 ≤ x ∧ x < N) ∧ out.length = l.length + 1 := by
  intro l
  induction hn : l.length generalizing l with
  | zero =>
    intro out h
    have : l = [] := List.eq_nil_of_length_eq_zero hn
    subst this
    simp [walkR] at h; subst h
    exact ⟨by simp, by simpa using hs, by simp⟩
  | succ n ih =>
    intro out h
    have hne : l ≠ [] := by intro e; subst e; simp at hn
    have hl : l = l.dropLast ++ [l.getLast hne] := (List.dropLast_concat_getLast hne).symm
    rw [hl, walkR_snocX] at h
    cases hw : walkR F s l.dropLast with
    | none => rw [hw] at h; cases h
    | some o =>
      rw [hw] at h
      obtain ⟨h1, h2, h3⟩ := ih (l := l.dropLast) (by simp [hn]) hw
      obtain ⟨x, rfl, a1, a2, a3⟩ := stepR_inX hF h
      refine ⟨?_, ?_, by simp [h3]⟩
      · rw [List.nodup_append]
        refine ⟨h1, by simp, ?_⟩
        intro a ha b hb e
        simp at hb; subst hb; subst e; exact a3 ha
      · intro y hy
        rcases List.mem_append.1 hy with hy | hy
        · exact h2 y hy
        · simp at hy; subst hy; exact ⟨a1, a2⟩
theorem nodup_leX {N : Nat} {l : List Int} (h : l.Nodup) (hb : ∀ x ∈ l, 0 ≤ x ∧ x < (N : Int)) : l.length ≤ N := by
  have h2 : (l.map Int.toNat).Nodup := by
    rw [List.Nodup, List.pairwise_map]
    refine List.Pairwise.imp_of_mem ?_ h
    intro a b ha hb' hab e
    have := hb a ha; have := hb b hb'
    omega
  have h3 : (l.map Int.toNat) ⊆ List.range N := by
    intro x hx
    obtain ⟨y, hy, rfl⟩ := List.mem_map.1 hx
    have := hb y hy
    simp; omega
  have := h2.length_le_of_subset h3
  simpa using this
theorem vis_nodes {n : Net} (h : netB n = true) {s : Int} {l out : List Int} (hv : visR n.nodes.length n.fibers s l = some out) : (∀ (k : Nat) (x : Int), out[k]? = some x → 0 ≤ x ∧ x < (n.nodes.length : Int)) ∧ l.length ≤ 8 := by
  have hF : ∀ f ∈ n.fibers, 0 ≤ f.a ∧ f.a < f.b ∧ f.b < (n.nodes.length : Int) := fun f hf => by
    have := fibB_is (netB_fibs h f hf); omega
  obtain ⟨hs, h1, h2, _, _⟩ := vis_is (r := (s, l)) hv
  unfold visR at hv
  split at hv
  · obtain ⟨a1, a2, a3⟩ := wkInX hF hs hv
    refine ⟨fun k x hx => a2 x (List.mem_of_getElem? hx), ?_⟩
    have := nodup_leX a1 a2
    have := (netB_len h).2.1
    omega
  · cases hv
theorem rtTo_len {n : Net} (h : netB n = true) {l out : List Int} (hl : ∀ (k : Nat) (i : Int), l[k]? = some i → 0 ≤ i ∧ i < n.fibers.length) : ∀ k, k ≤ l.length → (rtTo n.nodes l out k).length ≤ 8 + 17 * k := by
  intro k
  induction k with
  | zero =>
    intro _
    have := nm_len h (out.getD 0 0)
    unfold rtTo
    rw [List.length_append]
    simp only [List.range_zero, List.flatMap_nil, List.length_nil]
    omega
  | succ k ih =>
    intro hk
    have hx : l[k]? = some (l.getD k 0) := by rw [List.getD_eq_getElem?_getD, List.getElem?_eq_getElem (by omega)]; rfl
    have h1 := hl k _ hx
    have h14 := (netB_len h).2.2
    have h2 := itoa_len (n := l.getD k 0) (by omega) (by omega)
    have h3 := nm_len h (out.getD (k + 1) 0)
    rw [rtTo_succ, List.length_append]
    unfold legL
    have := ih (by omega)
    rw [List.length_cons, List.length_append, List.length_cons]
    omega
theorem Cells.ints_at {w : World} {p : Option Addr} {xs : List Int} (h : Cells w p (xs.map iv)) {k : Nat} (hk : k < xs.length) : ∃ b off x, p = some ⟨b, off, none⟩ ∧ xs[k]? = some x ∧ w.cell? ⟨b, off + k, none⟩ = some (.int .i64 x) := Ints.at (xs := xs) h hk
set_option maxHeartbeats 4000000 in
set_option maxRecDepth 20000 in
theorem routeText_any (v : Value) (n : Net) (s : Int) (q : Option Addr) (cap : Nat) (l : List Int) (w : World) (h : NetIn w v n) (hI : Ints w q l) (hT : TabE w) (hn : netB n = true) (hv : isVis n s l = true) :
    Calls Tryz.prog 23 #[v, .agg #[.int .i64 s, .slice q l.length cap]] w fun e w' => e = .returned (.string (ba (routeX n (s, l)))) ∧ Fresh w w' := by
  obtain ⟨out, hout⟩ : ∃ out, visR n.nodes.length n.fibers s l = some out := Option.isSome_iff_exists.1 hv
  obtain ⟨⟨s0, s1⟩, v1, v2, v3, v4⟩ := vis_is (r := (s, l)) hout
  obtain ⟨u1, u2⟩ := vis_nodes hn hout
  simp only at s0 s1 v1 v2 v3 v4
  have HNI := Lib.hid h
  have HRT : Hid (routeX n (s, l) = rtTo n.nodes l out l.length) := routeX_of (r := (s, l)) hout
  obtain ⟨N, F⟩ := n
  obtain ⟨qn, cn, pn, cp, rfl, hN, _, n1, n2, n3, n4, hsz⟩ := h
  simp only at hN n1 n2 n3 hsz s0 s1 u1 v4 hout
  obtain ⟨W2, hW2, hsz2, hf2, r1, r2⟩ := two_rows w [.slice qn N.length cn, .slice pn F.length cp] [.int .i64 s, .slice q l.length cap] 34 54
  have HV := Lib.hid (visited_any _ ⟨N, F⟩ s q cap l W2 (HNI.out.keep hf2) (hI.keep hf2) (by omega))
  rw [show visR (⟨N, F⟩ : Net).nodes.length (⟨N, F⟩ : Net).fibers s l = some out from hout] at HV
  have HF2 := Lib.hid hf2
  have HW2 := Lib.hid hW2
  have HR1 := Lib.hid r1
  have HR2 := Lib.hid r2
  have HT := Lib.hid (hT.keep hf2)
  have HN := Lib.hid (hN.keep hf2)
  have HI := Lib.hid (hI.keep hf2)
  have HB := Lib.hid hn
  have HV3 := Lib.hid v3
  have HV4 := Lib.hid v4
  have HU1 := Lib.hid u1
  have hol : out.length = l.length + 1 := v2
  have HOL := Lib.hid hol
  have ho1 : 0 < out.length := by omega
  have c0 := r1.cell (i := 0) rfl
  have c1 := r1.cell (i := 1) rfl
  have e0 := r2.cell (i := 0) rfl
  have e1 := r2.cell (i := 1) rfl
  clear hN hI hT hsz hn hv hout hW2 hsz2 hf2 r1 r2 v2 v3 v4 u1 hol
  go_enter Tryz.func23, Tryz.ntmps23
  go_wp2_with fail
  rw [← HW2.out]
  refine (HV.out).mono ?_
  rintro e w3 ⟨px, cx, xs, rfl, hf3, hx⟩
  obtain ⟨rfl, hxo⟩ := hx _ rfl
  have hIO : Ints w3 px xs := hxo.cells
  obtain ⟨ob, oo, o0, hpe, hx0, m0⟩ := hIO.at (k := 0) ho1
  subst hpe
  obtain rfl : o0 = s := by
    have := HV3.out
    rw [List.getD_eq_getElem?_getD, hx0] at this
    exact this
  rw [Nat.add_zero] at m0
  obtain ⟨ks, rfl⟩ : ∃ ks : Nat, o0 = ks := ⟨o0.toNat, by omega⟩
  have hks : ks < N.length := by omega
  have hksz : (ks : Int) < (N.length : Int) := by omega
  obtain ⟨bb, no, ss, hqe, hxs, m1⟩ := (HN.out.keep hf3).at hks
  subst hqe
  have hT0 : ss = ba (rtTo N l xs 0) := by
    have e : xs.getD 0 0 = (ks : Int) := HV3.out
    unfold rtTo
    rw [e, nmL_at hxs]
    simp [ba_bs]
  have HT0 := Lib.hid hT0
  have HXO := Lib.hid hxo
  have HF3 := Lib.hid hf3
  have hc0 := fun xa : After w3 => akeep (fkeep hf3 c0) xa
  have hm0 := fun xa : After w3 => akeep m0 xa
  have hm1 := fun xa : After w3 => akeep m1 xa
  clear hx hxo hIO hx0 hxs hT0 hf3 m0 m1 HV
  go_upto_region 2 with fail
  clear c0 c1 e0 e1
  refine wp_region_after (by kernel_rfl) (by kernel_rfl) ?_
  repeat (go_big_quiet_step (fail))
  refine wpQuiet_nil ?_
  rintro _ ⟨xa, rfl⟩
  clear hc0 hm0 hm1
  obtain ⟨W4, hW4⟩ : ∃ W, W = xa.w' := ⟨_, rfl⟩
  rw [← hW4]
  have hf4 : Fresh w3 W4 := by rw [hW4]; exact xa.h
  have HF4 := Lib.hid (fstep HF3.out hf4)
  have HX4 := Lib.hid (HXO.out.keep hf4)
  clear hW4 hf4 HXO
  clear xa
  have e0 := (HR2.out.keep HF4.out).cell (i := 0) rfl
  have e1 := (HR2.out.keep HF4.out).cell (i := 1) rfl
  go_wp2
  clear e0 e1
  go_loopw [7, 26] (fun tv iv' wr => ∃ (k : Nat) (T : ByteArray), k ≤ l.length ∧ iv' = .int .i64 k ∧ tv = .string T ∧ Hid (T = ba (rtTo N l xs k)) ∧ Fresh W4 wr) (fun _ iv' _ => l.length - (intOf iv').toNat)
  case atStart => exact ⟨0, _, Nat.zero_le _, rfl, rfl, HT0.out, frefl _⟩
  case round =>
    obtain ⟨k, T, hk, rfl, rfl, HT', hf⟩ := hrel
    have hTs := str_of HT'.out (rtTo_len (n := ⟨N, F⟩) HB.out HV4.out k hk)
    have HFR := Lib.hid (fstep HF4.out hf)
    have HFQ := Lib.hid hf
    by_cases hlt : k < l.length
    · have hltz : (k : Int) < (l.length : Int) := by omega
      obtain ⟨lb, lo, i, hle, hxi, m0⟩ := (HI.out.keep HFR.out).at hlt
      subst hle
      have hio := HV4.out k i hxi
      have h14 := (netB_len HB.out).2.2
      simp only at hio h14
      obtain ⟨ob', oo', y, hpe, hxy, m1⟩ := (HX4.out.keep hf).cells.ints_at (k := k + 1) (by have := HOL.out; omega)
      cases hpe
      have hyo := HU1.out _ _ hxy
      obtain ⟨ky, rfl⟩ : ∃ ky : Nat, y = ky := ⟨y.toNat, by omega⟩
      have hky : ky < N.length := by omega
      have hkyz : (ky : Int) < (N.length : Int) := by omega
      obtain ⟨b3, o3, sy, hqe, hxsy, m2⟩ := (HN.out.keep HFR.out).at hky
      cases hqe
      have hly := nm_len (n := ⟨N, F⟩) HB.out (ky : Int)
      rw [nmL_at hxsy, bs_len] at hly
      obtain ⟨u, hu⟩ : ∃ u, u = ba (Lib.itoa i) := ⟨_, rfl⟩
      have hus : u.size ≤ 10 := by rw [hu, ba_size]; exact itoa_len9 (by omega) (by omega)
      have HIU : Hid (∀ xa : After wr, Calls Tryz.prog 22 #[.int .i64 i] xa.w' fun e w' => e = .returned (.string u) ∧ Fresh xa.w' w') := fun xa => by rw [hu]; exact itoa_any i _ (HT.out.keep (fstep HFR.out xa.h)) (by omega) (by omega)
      have HTN : Hid (ba (rtTo N l xs (k + 1)) = T ++ (((ba [46] ++ u) ++ ba [46]) ++ sy)) := by
        show _ = _
        have h1 : l.getD k 0 = i := by rw [List.getD_eq_getElem?_getD, hxi]; rfl
        have h2 : xs.getD (k + 1) 0 = (ky : Int) := by rw [List.getD_eq_getElem?_getD, hxy]; rfl
        rw [rtTo_succ]
        unfold legL
        rw [h1, h2, nmL_at hxsy, HT'.out, hu]
        apply bs_inj
        simp [bs_app]
      have c0 := fun xa : After wr => akeep ((HR1.out.keep HFR.out).cell (i := 0) rfl) xa
      have hm1 := fun xa : After wr => akeep m1 xa
      have hm2 := fun xa : After wr => akeep m2 xa
      have hk1 : IntKind.i64.wrap ((k : Int) + 1) = (k : Int) + 1 := by rw [IntKind.wrap_i64]; omega
      have hk2 : ((k : Int) + 1).toNat = k + 1 := by omega
      have hk3 : (k : Int) + 1 < (xs.length : Int) := by have := HOL.out; omega
      have hk4 : 0 ≤ (k : Int) + 1 := by omega
      have HKL := Lib.hid hlt
      clear hu hxi hxy hxsy hf hio hyo m1 m2 HX4
      go_upto_region 6 with fail
      refine wp_region_after (by kernel_rfl) (by kernel_rfl) ?_
      repeat (go_big_quiet_step ((go_at_call 22; exact after_call (HIU.out _))))
      refine wpQuiet_nil ?_
      rintro _ ⟨xa, rfl⟩
      clear c0 hm1 hm2 hk1 hk2 hk3 hk4
      go_wp2
      go_roundw
      case rel =>
        refine ⟨k + 1, _, by omega, by go_num, rfl, ?_, ?_⟩
        · show _ = ba (rtTo N l xs (k + 1))
          rw [HTN.out]
        · exact fstep HFQ.out xa.h
      case measure => simp [intOf]; omega
    · have hltz : ¬ (k : Int) < (l.length : Int) := by omega
      have hkn : k = l.length := by omega
      have HTE : Hid (T = ba (routeX ⟨N, F⟩ ((ks : Int), l))) := by show _ = _; rw [HT'.out, HRT.out, hkn]
      clear hkn hf
      go_wp2
      go_ret
      exact ⟨by rw [← HTE.out]; rfl, fstep HF2.out HFR.out⟩
set_option maxHeartbeats 2000000 in
theorem l4Nodes_x (v : Value) (n : Net) (s : Int) (q : Option Addr) (c : Nat) (a out : List Int) (w : World) (h : NetIn w v n) (ha : Ints w q a) (hl : a.length ≤ 1048576) (hv : visR n.nodes.length n.fibers s a = some out) :
    Calls Tryz.prog 123 #[v, .agg #[.int .i64 s, .slice q a.length c]] w fun e w' => ∃ p cap, e = .returned (.slice p out.length cap) ∧ Own w' w.heap.size 3 p (out.map iv) ∧ Fresh w w' := by
  have HN := Lib.hid h
  have HA := Lib.hid ha
  obtain ⟨qn, cn, pn, cp, rfl, _, _, n1, _, _, _, _⟩ := h
  obtain ⟨W2, hW2, hsz2, hf2, r1, r2⟩ := two_rows w [.slice qn n.nodes.length cn, .slice pn n.fibers.length cp] [.int .i64 s, .slice q a.length c] 34 54
  have HF2 := Lib.hid hf2
  have HW2 := Lib.hid hW2
  have HV := Lib.hid (l4Walk_any _ n s q c a W2 (HN.out.keep hf2) (HA.out.keep hf2) hl)
  rw [hv] at HV
  clear ha hf2 hW2 hsz2 r1 r2 hv
  go_enter Tryz.func123, Tryz.ntmps123
  go_wp2_with fail
  rw [← HW2.out]
  refine (HV.out).mono ?_
  rintro e w4 ⟨px, cx, xs, rfl, hf4, hx⟩
  obtain ⟨rfl, hxo⟩ := hx _ rfl
  have HF4 := Lib.hid (fstep HF2.out hf4)
  have HX4 := Lib.hid (hxo.mono HF2.out.size)
  clear hf4 hx hxo HV
  go_wp2
  go_ret
  exact ⟨px, cx, rfl, HX4.out, HF4.out⟩
set_option maxHeartbeats 4000000 in
set_option maxRecDepth 20000 in
theorem l3Route_any (v : Value) (n : Net) (s : Int) (q : Option Addr) (cap : Nat) (l : List Int) (w : World) (h : NetIn w v n) (hI : Ints w q l) (hn : netB n = true) (hv : isVis n s l = true) :
    Calls Tryz.prog 89 #[v, .agg #[.int .i64 s, .slice q l.length cap]] w fun e w' => e = .returned (.string (ba (routeX n (s, l)))) ∧ Fresh w w' := by
  obtain ⟨out, hout⟩ : ∃ out, visR n.nodes.length n.fibers s l = some out := Option.isSome_iff_exists.1 hv
  obtain ⟨⟨s0, s1⟩, v1, v2, v3, v4⟩ := vis_is (r := (s, l)) hout
  obtain ⟨u1, u2⟩ := vis_nodes hn hout
  simp only at s0 s1 v1 v2 v3 v4
  have HNI := Lib.hid h
  have HRT : Hid (routeX n (s, l) = rtTo n.nodes l out l.length) := routeX_of (r := (s, l)) hout
  obtain ⟨N, F⟩ := n
  obtain ⟨qn, cn, pn, cp, rfl, hN, _, n1, n2, n3, n4, hsz⟩ := h
  simp only at hN n1 n2 n3 hsz s0 s1 u1 v4 hout
  obtain ⟨W2, hW2, hsz2, hf2, r1, r2⟩ := two_rows w [.slice qn N.length cn, .slice pn F.length cp] [.int .i64 s, .slice q l.length cap] 34 54
  have HV := Lib.hid (l4Nodes_x _ ⟨N, F⟩ s q cap l out W2 (HNI.out.keep hf2) (hI.keep hf2) (by omega) hout)
  have HF2 := Lib.hid hf2
  have HW2 := Lib.hid hW2
  have HR1 := Lib.hid r1
  have HR2 := Lib.hid r2
  have HN := Lib.hid (hN.keep hf2)
  have HI := Lib.hid (hI.keep hf2)
  have HB := Lib.hid hn
  have HV3 := Lib.hid v3
  have HV4 := Lib.hid v4
  have HU1 := Lib.hid u1
  have hol : out.length = l.length + 1 := v2
  have HOL := Lib.hid hol
  have ho1 : 0 < out.length := by omega
  have c0 := r1.cell (i := 0) rfl
  have c1 := r1.cell (i := 1) rfl
  have e0 := r2.cell (i := 0) rfl
  have e1 := r2.cell (i := 1) rfl
  clear hN hI hsz hn hv hout hW2 hsz2 hf2 r1 r2 v2 v3 v4 u1 hol
  go_enter Tryz.func89, Tryz.ntmps89
  go_wp2_with fail
  rw [← HW2.out]
  refine (HV.out).mono ?_
  rintro e w3 ⟨px, cx, rfl, hxo, hf3⟩
  obtain ⟨xs, rfl⟩ : ∃ xs, xs = out := ⟨_, rfl⟩
  have hIO : Ints w3 px xs := hxo.cells
  obtain ⟨ob, oo, o0, hpe, hx0, m0⟩ := hIO.at (k := 0) ho1
  subst hpe
  obtain rfl : o0 = s := by
    have := HV3.out
    rw [List.getD_eq_getElem?_getD, hx0] at this
    exact this
  rw [Nat.add_zero] at m0
  obtain ⟨ks, rfl⟩ : ∃ ks : Nat, o0 = ks := ⟨o0.toNat, by omega⟩
  have hks : ks < N.length := by omega
  have hksz : (ks : Int) < (N.length : Int) := by omega
  obtain ⟨bb, no, ss, hqe, hxs, m1⟩ := (HN.out.keep hf3).at hks
  subst hqe
  have hT0 : ss = ba (rtTo N l xs 0) := by
    have e : xs.getD 0 0 = (ks : Int) := HV3.out
    unfold rtTo
    rw [e, nmL_at hxs]
    simp [ba_bs]
  have HT0 := Lib.hid hT0
  have HXO := Lib.hid hxo
  have HF3 := Lib.hid hf3
  have d0 := fkeep hf3 c0
  have d1 := fkeep hf3 c1
  have d2 := fkeep hf3 e0
  have d3 := fkeep hf3 e1
  clear hxo hIO hx0 hxs hT0 hf3 m0 HV
  clear c0 c1 e0 e1
  obtain ⟨W4, hW4⟩ : ∃ W4, W4 = w3 := ⟨_, rfl⟩
  have HF4 : Hid (Fresh W2 W4) := by rw [hW4]; exact HF3.out
  have HX4 : Hid (Own W4 W2.heap.size 3 (some ⟨ob, oo, none⟩) (xs.map iv)) := by rw [hW4]; exact HXO.out
  have HW4 := Lib.hid hW4
  clear hW4 HXO
  go_wp2
  have hlp := HW4.out
  subst hlp
  clear d0 d1 d2 d3 m1
  go_loopw [6, 7] (fun tv iv' wr => ∃ (k : Nat) (T : ByteArray), k ≤ l.length ∧ iv' = .int .i64 k ∧ tv = .string T ∧ Hid (T = ba (rtTo N l xs k)) ∧ Fresh W4 wr) (fun _ iv' _ => l.length - (intOf iv').toNat)
  case atStart => exact ⟨0, _, Nat.zero_le _, rfl, rfl, HT0.out, frefl _⟩
  case round =>
    obtain ⟨k, T, hk, rfl, rfl, HT', hf⟩ := hrel
    have hTs := str_of HT'.out (rtTo_len (n := ⟨N, F⟩) HB.out HV4.out k hk)
    have HFR := Lib.hid (fstep HF4.out hf)
    have HFQ := Lib.hid hf
    have g0 := (HR2.out.keep HFR.out).cell (i := 0) rfl
    have g1 := (HR2.out.keep HFR.out).cell (i := 1) rfl
    have z0 := (HR1.out.keep HFR.out).cell (i := 0) rfl
    by_cases hlt : k < l.length
    · have hltz : (k : Int) < (l.length : Int) := by omega
      obtain ⟨lb, lo, i, hle, hxi, m0⟩ := (HI.out.keep HFR.out).at hlt
      subst hle
      have hio := HV4.out k i hxi
      have h14 := (netB_len HB.out).2.2
      simp only at hio h14
      obtain ⟨ob', oo', y, hpe, hxy, m1⟩ := (HX4.out.keep hf).cells.ints_at (k := k + 1) (by have := HOL.out; omega)
      cases hpe
      have hyo := HU1.out _ _ hxy
      obtain ⟨ky, rfl⟩ : ∃ ky : Nat, y = ky := ⟨y.toNat, by omega⟩
      have hky : ky < N.length := by omega
      have hkyz : (ky : Int) < (N.length : Int) := by omega
      obtain ⟨b3, o3, sy, hqe, hxsy, m2⟩ := (HN.out.keep HFR.out).at hky
      cases hqe
      have hly := nm_len (n := ⟨N, F⟩) HB.out (ky : Int)
      rw [nmL_at hxsy, bs_len] at hly
      obtain ⟨u, hu⟩ : ∃ u, u = ba (Lib.itoa i) := ⟨_, rfl⟩
      have hus : u.size ≤ 10 := by rw [hu, ba_size]; exact itoa_len9 (by omega) (by omega)
      have HIU : Hid (∀ xa : After wr, Calls Tryz.prog 88 #[.int .i64 i] xa.w' fun e w' => e = .returned (.string u) ∧ Fresh xa.w' w') := fun xa => by rw [hu]; exact l1Num_any i _ (by omega) (by omega)
      have HTN : Hid (ba (rtTo N l xs (k + 1)) = (((T ++ ba [46]) ++ u) ++ ba [46]) ++ sy) := by
        show _ = _
        have h1 : l.getD k 0 = i := by rw [List.getD_eq_getElem?_getD, hxi]; rfl
        have h2 : xs.getD (k + 1) 0 = (ky : Int) := by rw [List.getD_eq_getElem?_getD, hxy]; rfl
        rw [rtTo_succ]
        unfold legL
        rw [h1, h2, nmL_at hxsy, HT'.out, hu]
        apply bs_inj
        simp [bs_app]
      have c0 := fun xa : After wr => akeep ((HR1.out.keep HFR.out).cell (i := 0) rfl) xa
      have c1 := fun xa : After wr => akeep ((HR2.out.keep HFR.out).cell (i := 1) rfl) xa
      have hm0 := fun xa : After wr => akeep m0 xa
      have hm1 := fun xa : After wr => akeep m1 xa
      have hm2 := fun xa : After wr => akeep m2 xa
      have hk1 : IntKind.i64.wrap ((k : Int) + 1) = (k : Int) + 1 := by rw [IntKind.wrap_i64]; omega
      have hk2 : ((k : Int) + 1).toNat = k + 1 := by omega
      have hk3 : (k : Int) + 1 < (xs.length : Int) := by have := HOL.out; omega
      have hk4 : 0 ≤ (k : Int) + 1 := by omega
      have HKL := Lib.hid hlt
      clear hu hxi hxy hxsy hf hio hyo m1 m2 HX4
      go_upto_region 6 with fail
      clear g0 g1 z0 m0
      refine wp_region_after (by kernel_rfl) (by kernel_rfl) ?_
      repeat (go_big_quiet_step ((go_at_call 88; exact after_call (HIU.out _))))
      refine wpQuiet_nil ?_
      rintro _ ⟨xa, rfl⟩
      clear c0 c1 hm0 hm1 hm2 hk1 hk2 hk3 hk4
      go_wp2
      go_roundw
      case rel =>
        refine ⟨k + 1, _, by omega, by go_num, rfl, ?_, ?_⟩
        · show _ = ba (rtTo N l xs (k + 1))
          rw [HTN.out]
        · exact fstep HFQ.out xa.h
      case measure => simp [intOf]; omega
    · have hltz : ¬ (k : Int) < (l.length : Int) := by omega
      have hkn : k = l.length := by omega
      have HTE : Hid (T = ba (routeX ⟨N, F⟩ ((ks : Int), l))) := by show _ = _; rw [HT'.out, HRT.out, hkn]
      clear hkn hf
      go_wp2
      go_ret
      exact ⟨by rw [← HTE.out]; rfl, fstep HF2.out HFR.out⟩
end Go.Proofs.YtjhaoonacjebpaaGreatDoor
