/- Plain: what the parsers of a plan need (no program in sight). -/
import Derived.Test.YtjhaoonacjebpaaGreatDoorPb
namespace Go.Proofs.YtjhaoonacjebpaaGreatDoor
open Go.RowKit Go.PlainAid

theorem splitC_small (c : UInt8) : ∀ s : List UInt8, (splitC c s).length ≤ s.length + 1 ∧ ∀ x ∈ splitC c s, x.length ≤ s.length
  | [] => by simp [splitC]
  | b :: r => by
    obtain ⟨h1, h2⟩ := splitC_small c r
    unfold splitC
    split
    · refine ⟨by simp; omega, ?_⟩
      intro x hx
      rcases List.mem_cons.1 hx with rfl | hx
      · simp
      · have := h2 x hx; simp; omega
    · split
      · next h t he =>
        rw [he] at h1 h2
        refine ⟨by simp at h1 ⊢; omega, ?_⟩
        intro x hx
        rcases List.mem_cons.1 hx with rfl | hx
        · have := h2 h (by simp); simp; omega
        · have := h2 x (List.mem_cons_of_mem _ hx); simp; omega
      · simp
theorem take_snoc {α : Type} {l : List α} {k : Nat} {x : α} (h : l[k]? = some x) : l.take k ++ [x] = l.take (k + 1) := by
  rw [List.take_add_one, h]; rfl
/-- A text is the text of this valid network. -/
def IsN (s : List UInt8) (M : Net) : Prop := netB M = true ∧ netX M = s
theorem suf_ten (x : List UInt8) : Lib.hasSuffix (x ++ [10]) [10] = true := by simp [Lib.hasSuffix]
theorem isN_lines {s : List UInt8} {M : Net} (h : IsN s M) : linesOk s = true ∧ splitC 10 s.dropLast = headL M.nodes :: M.fibers.map (fibL M.nodes) := by
  obtain ⟨h1, h2⟩ := h
  have hne : headL M.nodes :: M.fibers.map (fibL M.nodes) ≠ [] := by simp
  have hl := netX_len h1
  have e := netX_lines M
  rw [h2] at hl e
  refine ⟨?_, by rw [e]; exact linesX_body hne (net_lines h1)⟩
  unfold linesOk
  rw [decide_eq_true (by omega), Bool.true_and, e, linesX_join hne]
  exact suf_ten _
theorem map_ba_bs (l : List ByteArray) : (l.map bs).map ba = l := by
  rw [List.map_map]
  conv => rhs; rw [← List.map_id l]
  exact List.map_congr_left fun x _ => ba_bs x
theorem nodes_of {s : List UInt8} {M : Net} (h : IsN s M) {x0 : List UInt8} (h0 : (splitC 10 s.dropLast)[0]? = some x0) : M.nodes = ((splitC 32 x0).drop 1).map ba := by
  rw [(isN_lines h).2] at h0
  cases h0
  rw [head_words h.1]
  exact (map_ba_bs _).symm
theorem net_round {s : List UInt8} {nodes : List ByteArray} {F : List Fib} {k : Nat} {x : List UInt8} {g : Fib} {b : Bool} (hx : (splitC 10 s.dropLast)[k + 1]? = some x) (hM : ∀ M, IsN s M → M.nodes = nodes ∧ F = M.fibers.take k)
    (hr : ∀ M : Net, netB M = true → M.nodes = nodes → ∀ g' ∈ M.fibers, fibL nodes g' = x → b = true ∧ g' = g) : ∀ M, IsN s M → b = true ∧ F ++ [g] = M.fibers.take (k + 1) := by
  intro M h
  obtain ⟨h1, h2⟩ := hM M h
  rw [(isN_lines h).2, List.getElem?_cons_succ, List.getElem?_map] at hx
  cases hg : M.fibers[k]? with
  | none => rw [hg] at hx; cases hx
  | some g' =>
    rw [hg] at hx
    obtain ⟨r1, r2⟩ := hr M h.1 h1 g' (List.mem_of_getElem? hg) (by rw [← h1]; exact Option.some.inj hx)
    subst r2
    exact ⟨r1, by rw [h2]; exact take_snoc hg⟩
theorem net_done {s : List UInt8} {nodes : List ByteArray} {F : List Fib} {k : Nat} (hM : ∀ M, IsN s M → M.nodes = nodes ∧ F = M.fibers.take k) (hk : (splitC 10 s.dropLast).length ≤ k + 1) : ∀ M, IsN s M → M = ⟨nodes, F⟩ := by
  intro M h
  obtain ⟨h1, h2⟩ := hM M h
  rw [(isN_lines h).2, List.length_cons, List.length_map] at hk
  rw [List.take_of_length_le (by omega)] at h2
  subst h1 h2
  rfl
theorem rt_start {n : Net} (hn : netB n = true) {s W0 : List UInt8} (h0 : (splitC 46 s)[0]? = some W0) {R : Int × List Int} (hR : IsRt n s R) : idxL n.nodes (ba W0) = R.1 ∧ 0 ≤ R.1 := by
  obtain ⟨out, hv⟩ := hR.vis
  have h1 := (route_at hn hv).2.1
  rw [hR.2, h0] at h1
  cases h1
  have h2 := (vis_is hv).1
  obtain ⟨_, _, _, h3⟩ := node_idx hn h2.1 h2.2
  exact ⟨h3, h2.1⟩
theorem rt_round {n : Net} (hn : netB n = true) {s x : List UInt8} {j : Nat} (hx : (splitC 46 s)[2 * j + 1]? = some x) {L : List Int} {R : Int × List Int} (hR : IsRt n s R) (hL : L = R.2.take j) : ∃ i, numF x = some i ∧ L ++ [i] = R.2.take (j + 1) := by
  obtain ⟨out, hv⟩ := hR.vis
  obtain ⟨h1, _, h2⟩ := route_at hn hv
  rw [hR.2] at h1 h2
  have hlt := (List.getElem?_eq_some_iff.1 hx).1
  have hj : j < R.2.length := by omega
  have hi : R.2[j]? = some R.2[j] := List.getElem?_eq_getElem hj
  have h3 := h2 j _ hi
  rw [hx] at h3
  have h4 := (vis_is hv).2.2.2.2 j _ hi
  have h5 := (netB_len hn).2.2
  exact ⟨R.2[j], numF_iff.2 ⟨by omega, (Option.some.inj h3).symm⟩, by rw [hL]; exact take_snoc hi⟩
theorem rt_done {n : Net} (hn : netB n = true) {s : List UInt8} {j : Nat} (hk : (splitC 46 s).length ≤ 2 * j + 1) {L : List Int} {R : Int × List Int} (hR : IsRt n s R) (hL : L = R.2.take j) : L = R.2 := by
  obtain ⟨out, hv⟩ := hR.vis
  have h1 := (route_at hn hv).1
  rw [hR.2] at h1
  rw [hL]; exact List.take_of_length_le (by omega)
theorem blk_hit {f c : Int} (h : goodB f c = true) : pblkF goodB (blkT f c) = some (f, c) :=
  (pblkF_iff (fun a b h => by have := goodB_is h; omega)).2 ⟨h, rfl⟩
/-- What the words of a light's line say. -/
def LtOf (n : Net) (X : LtV) (x1 x2 x3 : List UInt8) : Prop := numF x1 = some X.1 ∧ IsRt n x2 X.2.1 ∧ pblkF goodB x3 = some X.2.2
theorem lt_of {n : Net} {X : LtV} (hX : ltB n X = true) : LtOf n X (Lib.itoa X.1) (routeX n X.2.1) (blkT X.2.2.1 X.2.2.2) := by
  obtain ⟨h1, h2, h3⟩ := ltB_is hX
  exact ⟨numF_iff.2 ⟨by omega, rfl⟩, ⟨h2, rfl⟩, blk_hit h3⟩
theorem lt_four {n : Net} (hn : netB n = true) {s x0 x1 x2 x3 : List UInt8} (hP : splitC 32 s = [x0, x1, x2, x3]) {X : LtV} (hX : ltB n X = true) (hs : lightL n X = s) : LtOf n X x1 x2 x3 := by
  have h := light_words hn hX
  rw [hs, hP] at h
  simp at h
  obtain ⟨_, rfl, rfl, rfl⟩ := h
  exact lt_of hX
theorem lt_len4 {n : Net} (hn : netB n = true) {s : List UInt8} {X : LtV} (hX : ltB n X = true) (hs : lightL n X = s) : (splitC 32 s).length = 4 := by
  rw [← hs, light_words hn hX]; rfl
theorem lt_three {n : Net} (hn : netB n = true) {s x1 x2 x3 : List UInt8} (hP : splitC 32 s = [x1, x2, x3]) {X : LtV} (hX : ltB n X = true) (hs : lightR n X = s) : LtOf n X x1 x2 x3 := by
  have h := light_rest hn hX
  unfold lightR at hs
  rw [hs, hP] at h
  simp at h
  obtain ⟨rfl, rfl, rfl⟩ := h
  exact lt_of hX
theorem lt_len3 {n : Net} (hn : netB n = true) {s : List UInt8} {X : LtV} (hX : ltB n X = true) (hs : lightR n X = s) : (splitC 32 s).length = 3 := by
  unfold lightR at hs
  rw [← hs, light_rest hn hX]; rfl
theorem pp_none {s hd tl : List UInt8} (h : Lib.cut s sepL = (hd, tl, false)) {P : PlanV} (hP : IsPlan s P) : P.lights = [] ∧ IsN s P.net := by
  obtain ⟨h1, h2, _⟩ := hP
  rcases plan_cut h1 with ⟨a, b, c⟩ | ⟨hd', tl', a, b, c, d⟩
  · exact ⟨a, planX_net h1, by rw [← c, h2]⟩
  · rw [h2, h] at b; cases b
theorem pp_some {s hd tl : List UInt8} (h : Lib.cut s sepL = (hd, tl, true)) {P : PlanV} (hP : IsPlan s P) : IsN (hd ++ [10]) P.net ∧ linesOk ([108, 105, 103, 104, 116, 32] ++ tl) = true ∧ splitC 10 ([108, 105, 103, 104, 116, 32] ++ tl).dropLast = P.lights.map (lightL P.net) := by
  obtain ⟨h1, h2, h3⟩ := hP
  rcases plan_cut h1 with ⟨a, b, c⟩ | ⟨hd', tl', a, b, c, d⟩
  · rw [h2, h] at b; cases b
  · rw [h2, h] at b
    cases b
    have hne : P.lights.map (lightL P.net) ≠ [] := by simpa using a
    have hfr : ∀ l ∈ P.lights.map (lightL P.net), (10 : UInt8) ∉ l := fun l hl => by
      obtain ⟨x, hx, rfl⟩ := List.mem_map.1 hl
      exact light_free (planX_net h1) (planX_lights h1 x hx)
    refine ⟨⟨planX_net h1, c.symm⟩, ?_, by rw [d]; exact linesX_body hne hfr⟩
    have hl : ([108, 105, 103, 104, 116, 32] ++ tl).length ≤ 4000 := by
      have e : planX P = netX P.net ++ linesX (P.lights.map (lightL P.net)) := by
        unfold planX linesX; rw [List.flatMap_map]
      have h4 := congrArg List.length e
      rw [h2, List.length_append, ← d] at h4
      omega
    unfold linesOk
    rw [decide_eq_true hl, Bool.true_and, d, linesX_join hne]
    exact suf_ten _
theorem lt_line {Q : List (List UInt8)} {P : PlanV} (hp : planB P = true) (hQ : Q = P.lights.map (lightL P.net)) {k : Nat} {x : List UInt8} (hx : Q[k]? = some x) : ∃ X, P.lights[k]? = some X ∧ ltB P.net X = true ∧ lightL P.net X = x := by
  rw [hQ, List.getElem?_map] at hx
  cases hX : P.lights[k]? with
  | none => rw [hX] at hx; cases hx
  | some X => rw [hX] at hx; exact ⟨X, rfl, planX_lights hp X (List.mem_of_getElem? hX), Option.some.inj hx⟩
theorem sp_lines {s : List UInt8} {P : PlanV} (hP : IsPlan s P) : splitC 10 s = (headL P.net.nodes :: (P.net.fibers.map (fibL P.net.nodes) ++ P.lights.map (lightL P.net))) ++ [[]] := by
  rw [← hP.2.1, planX_lines]
  exact linesX_split (plan_lines hP.1)
theorem sp_len {s : List UInt8} {P : PlanV} (hP : IsPlan s P) : (splitC 10 s).length = 2 + P.net.fibers.length + P.lights.length := by
  rw [sp_lines hP]; simp; omega
theorem sp_head {s : List UInt8} {P : PlanV} (hP : IsPlan s P) {x0 : List UInt8} (h0 : (splitC 10 s)[0]? = some x0) : P.net.nodes = ((splitC 32 x0).drop 1).map ba := by
  rw [sp_lines hP] at h0
  cases h0
  rw [head_words (planX_net hP.1)]
  exact (map_ba_bs _).symm
theorem fib_pre (l : List ByteArray) (f : Fib) : 5 < (fibL l f).length ∧ (fibL l f).take 5 = [102, 105, 98, 101, 114] := by
  unfold fibL
  exact ⟨by simp <;> omega, rfl⟩
theorem light_pre (n : Net) (X : LtV) : 6 ≤ (lightL n X).length ∧ (lightL n X).take 6 = [108, 105, 103, 104, 116, 32] ∧ (lightL n X).drop 6 = lightR n X ∧ (lightL n X).take 5 ≠ [102, 105, 98, 101, 114] := by
  rw [lightL_R]
  exact ⟨by simp, rfl, rfl, by simp⟩
theorem sp_fib {s : List UInt8} {P : PlanV} (hP : IsPlan s P) {k : Nat} {x : List UInt8} (hx : (splitC 10 s)[k + 1]? = some x) (hk : k < P.net.fibers.length) : ∃ g, P.net.fibers[k]? = some g ∧ fibL P.net.nodes g = x := by
  rw [sp_lines hP, List.cons_append, List.getElem?_cons_succ, List.append_assoc, List.getElem?_append_left (by simpa using hk), List.getElem?_map] at hx
  rw [List.getElem?_eq_getElem hk] at hx ⊢
  exact ⟨_, rfl, Option.some.inj hx⟩
theorem sp_nofib {s : List UInt8} {P : PlanV} (hP : IsPlan s P) {k : Nat} {x : List UInt8} (hx : (splitC 10 s)[k + 1]? = some x) (hk : P.net.fibers.length ≤ k) : ¬ (5 < x.length ∧ x.take 5 = [102, 105, 98, 101, 114]) := by
  rw [sp_lines hP, List.cons_append, List.getElem?_cons_succ, List.append_assoc, List.getElem?_append_right (by simpa using hk)] at hx
  have hm := List.mem_of_getElem? hx
  rcases List.mem_append.1 hm with hm | hm
  · obtain ⟨X, _, rfl⟩ := List.mem_map.1 hm
    exact fun h => (light_pre _ X).2.2.2 h.2
  · simp at hm
    subst hm
    simp
theorem sp_light {s : List UInt8} {P : PlanV} (hP : IsPlan s P) {k : Nat} {x : List UInt8} (hx : (splitC 10 s)[1 + P.net.fibers.length + k]? = some x) (hk : 1 + P.net.fibers.length + k + 1 < (splitC 10 s).length) :
    ∃ X, P.lights[k]? = some X ∧ ltB P.net X = true ∧ 6 ≤ x.length ∧ x.take 6 = [108, 105, 103, 104, 116, 32] ∧ lightR P.net X = x.drop 6 := by
  have hl := sp_len hP
  have hkk : k < P.lights.length := by omega
  rw [sp_lines hP, List.cons_append, show 1 + P.net.fibers.length + k = (P.net.fibers.length + k) + 1 by omega, List.getElem?_cons_succ, List.append_assoc, List.getElem?_append_right (by simp), List.length_map, Nat.add_sub_cancel_left,
    List.getElem?_append_left (by simpa using hkk), List.getElem?_map, List.getElem?_eq_getElem hkk] at hx
  have hxe := Option.some.inj hx
  obtain ⟨h1, h2, h3, _⟩ := light_pre P.net P.lights[k]
  rw [hxe] at h1 h2 h3
  exact ⟨_, List.getElem?_eq_getElem hkk, planX_lights hP.1 _ (List.getElem_mem hkk), h1, h2, h3.symm⟩
end Go.Proofs.YtjhaoonacjebpaaGreatDoor
