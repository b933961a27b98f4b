/- Plain: the text of a route, of a light and of a plan, and how they are read (no program in sight). -/
import Derived.Test.YtjhaoonacjebpaaGreatDoorTxP
import Derived.Test.YtjhaoonacjebpaaGreatDoorU4
namespace Go.Proofs.YtjhaoonacjebpaaGreatDoor
open Go.RowKit Go.PlainAid

def legL (nodes : List ByteArray) (l out : List Int) (j : Nat) : List UInt8 := 46 :: (Lib.itoa (l.getD j 0) ++ 46 :: nmL nodes (out.getD (j + 1) 0))
/-- The text of a route as far as its first k fibers. -/
def rtTo (nodes : List ByteArray) (l out : List Int) (k : Nat) : List UInt8 := nmL nodes (out.getD 0 0) ++ (List.range k).flatMap (legL nodes l out)
theorem rtTo_succ (nodes : List ByteArray) (l out : List Int) (k : Nat) : rtTo nodes l out (k + 1) = rtTo nodes l out k ++ legL nodes l out k := by
  unfold rtTo; rw [List.range_succ, List.flatMap_append]; simp
def routeX (n : Net) (r : Int × List Int) : List UInt8 := match visR n.nodes.length n.fibers r.1 r.2 with
  | some out => rtTo n.nodes r.2 out r.2.length
  | none => []
theorem routeX_of {n : Net} {r : Int × List Int} {out : List Int} (h : visR n.nodes.length n.fibers r.1 r.2 = some out) : routeX n r = rtTo n.nodes r.2 out r.2.length := by unfold routeX; rw [h]
theorem walk_in {F : List Fib} {s : Int} {l : List Int} {out : List Int} (h : walkR F s l = some out) : ∀ (k : Nat) (i : Int), l[k]? = some i → 0 ≤ i ∧ i < F.length := by
  intro k i hk
  cases ho : walkR F s (l.take k) with
  | none => rw [walk_dead ho] at h; cases h
  | some o =>
    have h1 := walk_step ho hk
    cases hs : stepR F o i with
    | none => rw [hs] at h1; rw [walk_dead h1] at h; cases h
    | some o2 =>
      unfold stepR at hs
      split at hs
      · next hi => unfold inB at hi; simp at hi; omega
      · cases hs
theorem walk_first {F : List Fib} {s : Int} : ∀ {l : List Int} {out : List Int}, walkR F s l = some out → out.getD 0 0 = s ∧ 1 ≤ out.length := by
  have key : ∀ (l : List Int) (o out : List Int), 1 ≤ o.length → l.foldl (fun acc i => acc.bind fun o => stepR F o i) (some o) = some out → out.getD 0 0 = o.getD 0 0 ∧ 1 ≤ out.length := by
    intro l
    induction l with
    | nil => intro o out ho h; cases h; exact ⟨rfl, ho⟩
    | cons a l ih =>
      intro o out ho h
      rw [List.foldl_cons] at h
      cases hs : stepR F o a with
      | none => simp only [Option.bind_some, hs] at h; rw [walk_none] at h; cases h
      | some o2 =>
        simp only [Option.bind_some, hs] at h
        have h2 : ∃ x, o2 = o ++ [x] := by
          unfold stepR at hs
          split at hs
          · split at hs
            · split at hs
              · cases hs
              · cases hs; exact ⟨_, rfl⟩
            · cases hs
          · cases hs
        obtain ⟨x, rfl⟩ := h2
        have := ih _ _ (by simp) h
        refine ⟨?_, this.2⟩
        rw [this.1]
        cases o with
        | nil => simp at ho
        | cons y t => rfl
  intro l out h
  exact key l [s] out (by simp) h
/-- What a valid route is. -/
theorem vis_is {n : Net} {r : Int × List Int} {out : List Int} (h : visR n.nodes.length n.fibers r.1 r.2 = some out) : (0 ≤ r.1 ∧ r.1 < n.nodes.length) ∧ 1 ≤ r.2.length ∧ out.length = r.2.length + 1 ∧ out.getD 0 0 = r.1 ∧ ∀ (k : Nat) (i : Int), r.2[k]? = some i → 0 ≤ i ∧ i < n.fibers.length := by
  unfold visR at h
  split at h
  · next hc =>
    obtain ⟨h1, h2⟩ := hc
    unfold inB at h1; simp at h1
    refine ⟨by omega, by omega, ?_, (walk_first h).1, walk_in h⟩
    have := walk_len (F := n.fibers) (s := r.1) (l := r.2) (k := r.2.length) (out := out) (Nat.le_refl _) (by rw [List.take_length]; exact h)
    exact this
  · cases h
theorem leg_free {n : Net} (h : netB n = true) {r : Int × List Int} {out : List Int} (hv : visR n.nodes.length n.fibers r.1 r.2 = some out) {c : UInt8} (hc : c = 32 ∨ c = 10) : c ∉ routeX n r := by
  obtain ⟨_, _, _, _, hi⟩ := vis_is hv
  rw [routeX_of hv]
  unfold rtTo
  rw [List.mem_append, List.mem_flatMap]
  rintro (hm | ⟨j, hj, hm⟩)
  · exact nm_free h (by rcases hc with rfl | rfl <;> decide) hm
  · unfold legL at hm
    have hj' := List.mem_range.1 hj
    have hx : r.2[j]? = some (r.2.getD j 0) := by rw [List.getD_eq_getElem?_getD, List.getElem?_eq_getElem hj']; rfl
    have := hi j _ hx
    rcases List.mem_cons.1 hm with hm | hm
    · rcases hc with rfl | rfl <;> (revert hm; decide)
    · rcases List.mem_append.1 hm with hm | hm
      · exact itoa_nat_free (by omega) (by rcases hc with rfl | rfl <;> decide) hm
      · rcases List.mem_cons.1 hm with hm | hm
        · rcases hc with rfl | rfl <;> (revert hm; decide)
        · exact nm_free h (by rcases hc with rfl | rfl <;> decide) hm
theorem split_legs {nodes : List ByteArray} {l out : List Int} (hn : ∀ k, (46 : UInt8) ∉ nmL nodes k) (hl : ∀ (j : Nat) (i : Int), l[j]? = some i → 0 ≤ i) : ∀ (m k : Nat), k + m ≤ l.length → ∀ x, (46 : UInt8) ∉ x →
    splitC 46 (x ++ ((List.range m).map (· + k)).flatMap (legL nodes l out)) = x :: ((List.range m).map (· + k)).flatMap fun j => [Lib.itoa (l.getD j 0), nmL nodes (out.getD (j + 1) 0)] := by
  intro m
  induction m with
  | zero => intro k _ x hx; simp [splitC_none hx]
  | succ m ih =>
    intro k hk x hx
    have e : (List.range (m + 1)).map (· + k) = k :: (List.range m).map (· + (k + 1)) := by
      rw [List.range_succ_eq_map, List.map_cons, List.map_map, Nat.zero_add]
      congr 1
      apply List.map_congr_left
      intro a _
      simp only [Function.comp]; omega
    have hx2 : l[k]? = some (l.getD k 0) := by rw [List.getD_eq_getElem?_getD, List.getElem?_eq_getElem (by omega)]; rfl
    rw [e, List.flatMap_cons, List.flatMap_cons]
    show splitC 46 (x ++ (46 :: (Lib.itoa (l.getD k 0) ++ 46 :: nmL nodes (out.getD (k + 1) 0)) ++ _)) = _
    rw [List.cons_append, splitC_app hx, List.append_assoc, List.cons_append, splitC_app (itoa_nat_free (hl k _ hx2) (by decide)), ih (k + 1) (by omega) _ (hn _)]
    rfl
theorem route_words {n : Net} (h : netB n = true) {r : Int × List Int} {out : List Int} (hv : visR n.nodes.length n.fibers r.1 r.2 = some out) :
    splitC 46 (routeX n r) = nmL n.nodes r.1 :: (List.range r.2.length).flatMap fun j => [Lib.itoa (r.2.getD j 0), nmL n.nodes (out.getD (j + 1) 0)] := by
  obtain ⟨_, _, _, h0, hi⟩ := vis_is hv
  rw [routeX_of hv]
  unfold rtTo
  have := split_legs (nodes := n.nodes) (l := r.2) (out := out) (fun k => nm_free h (by decide)) (fun j i hj => (hi j i hj).1) r.2.length 0 (by omega) (nmL n.nodes (out.getD 0 0)) (nm_free h (by decide))
  simp only [Nat.add_zero, List.map_id'] at this
  rw [this, h0]
theorem flat2_len {α : Type} (f : Nat → List α) (hf : ∀ j, (f j).length = 2) (m : Nat) : ((List.range m).flatMap f).length = 2 * m := by
  induction m with
  | zero => rfl
  | succ m ih => rw [List.range_succ, List.flatMap_append, List.length_append, ih]; simp [hf]; omega
theorem flat2_at {α : Type} (f : Nat → List α) (hf : ∀ j, (f j).length = 2) (m j : Nat) (hj : j < m) : ((List.range m).flatMap f)[2 * j]? = (f j)[0]? := by
  induction m with
  | zero => omega
  | succ m ih =>
    rw [List.range_succ, List.flatMap_append]
    by_cases h : j < m
    · rw [List.getElem?_append_left (by rw [flat2_len f hf]; omega), ih h]
    · have : j = m := by omega
      subst this
      rw [List.getElem?_append_right (by rw [flat2_len f hf]; omega), flat2_len f hf, Nat.sub_self]; simp
/-- The words of a valid route: how many, and each number. -/
theorem route_at {n : Net} (h : netB n = true) {r : Int × List Int} {out : List Int} (hv : visR n.nodes.length n.fibers r.1 r.2 = some out) :
    (splitC 46 (routeX n r)).length = 2 * r.2.length + 1 ∧ (splitC 46 (routeX n r))[0]? = some (nmL n.nodes r.1) ∧ ∀ (j : Nat) (i : Int), r.2[j]? = some i → (splitC 46 (routeX n r))[2 * j + 1]? = some (Lib.itoa i) := by
  rw [route_words h hv]
  refine ⟨by rw [List.length_cons, flat2_len _ (fun _ => rfl)], rfl, ?_⟩
  intro j i hj
  have hlt := (List.getElem?_eq_some_iff.1 hj).1
  rw [List.getElem?_cons_succ, flat2_at _ (fun _ => rfl) _ _ hlt]
  rw [List.getD_eq_getElem?_getD, hj]; rfl
/-- A text is the text of a valid route. -/
def IsRt (n : Net) (w : List UInt8) (r : Int × List Int) : Prop := isVis n r.1 r.2 = true ∧ routeX n r = w
theorem IsRt.vis {n : Net} {w : List UInt8} {r : Int × List Int} (h : IsRt n w r) : ∃ out, visR n.nodes.length n.fibers r.1 r.2 = some out := by
  have := h.1; unfold isVis at this; exact Option.isSome_iff_exists.1 this

def lightL (n : Net) (x : LtV) : List UInt8 := [108, 105, 103, 104, 116, 32] ++ (Lib.itoa x.1 ++ (32 :: (routeX n x.2.1 ++ (32 :: blkT x.2.2.1 x.2.2.2))))
/-- The text of a plan. -/
def planX (P : PlanV) : List UInt8 := netX P.net ++ P.lights.flatMap fun x => lightL P.net x ++ [10]
def IsPlan (s : List UInt8) (P : PlanV) : Prop := planB P = true ∧ planX P = s ∧ s.length ≤ 4000
theorem planX_net {P : PlanV} (h : planB P = true) : netB P.net = true := by unfold planB at h; simp only [Bool.and_eq_true] at h; exact h.1.1
theorem planX_lights {P : PlanV} (h : planB P = true) : ∀ x ∈ P.lights, ltB P.net x = true := by
  intro x hx
  obtain ⟨k, hk⟩ := List.getElem?_of_mem hx
  unfold planB at h; simp only [Bool.and_eq_true] at h
  have := List.all_eq_true.1 h.2 k (List.mem_range.2 (List.getElem?_eq_some_iff.1 hk).1)
  unfold ltAt at this
  rw [hk] at this
  simp only [Bool.and_eq_true] at this
  exact this.1.1
theorem goodB_is {f c : Int} (h : goodB f c = true) : (0 ≤ f ∧ f ≤ 23) ∧ (1 ≤ c ∧ c ≤ 24) := by unfold goodB inB at h; simp at h; omega
theorem ltB_is {n : Net} {x : LtV} (h : ltB n x = true) : (1 ≤ x.1 ∧ x.1 ≤ 999) ∧ isVis n x.2.1.1 x.2.1.2 = true ∧ goodB x.2.2.1 x.2.2.2 = true := by
  unfold ltB at h; simp only [Bool.and_eq_true] at h
  have := h.1.1; unfold inB at this; simp at this
  exact ⟨this, h.1.2, h.2⟩
theorem blkT_free {f c : Int} {b : UInt8} (hf : 0 ≤ f) (hc : 0 ≤ c) (hb : b = 32 ∨ b = 10) : b ∉ blkT f c := by
  unfold blkT
  rw [List.mem_append, List.mem_cons]
  rintro (h | h | h)
  · exact itoa_nat_free hf (by rcases hb with rfl | rfl <;> decide) h
  · rcases hb with rfl | rfl <;> (revert h; decide)
  · exact itoa_nat_free hc (by rcases hb with rfl | rfl <;> decide) h
/-- The words of a light's line behind the first one. -/
theorem light_rest {n : Net} (h : netB n = true) {x : LtV} (hx : ltB n x = true) : splitC 32 (Lib.itoa x.1 ++ (32 :: (routeX n x.2.1 ++ (32 :: blkT x.2.2.1 x.2.2.2)))) = [Lib.itoa x.1, routeX n x.2.1, blkT x.2.2.1 x.2.2.2] := by
  obtain ⟨h1, h2, h3⟩ := ltB_is hx
  obtain ⟨out, hv⟩ := IsRt.vis (w := routeX n x.2.1) ⟨h2, rfl⟩
  have hg := goodB_is h3
  rw [splitC_app (itoa_nat_free (by omega) (by decide)), splitC_app (leg_free h hv (Or.inl rfl)), splitC_none (blkT_free (by omega) (by omega) (Or.inl rfl))]
theorem light_words {n : Net} (h : netB n = true) {x : LtV} (hx : ltB n x = true) : splitC 32 (lightL n x) = [[108, 105, 103, 104, 116], Lib.itoa x.1, routeX n x.2.1, blkT x.2.2.1 x.2.2.2] := by
  unfold lightL
  rw [show ([108, 105, 103, 104, 116, 32] : List UInt8) ++ (Lib.itoa x.1 ++ (32 :: (routeX n x.2.1 ++ (32 :: blkT x.2.2.1 x.2.2.2)))) = [108, 105, 103, 104, 116] ++ 32 :: (Lib.itoa x.1 ++ (32 :: (routeX n x.2.1 ++ (32 :: blkT x.2.2.1 x.2.2.2)))) from by simp]
  rw [splitC_app (by decide), light_rest h hx]
theorem light_free {n : Net} (h : netB n = true) {x : LtV} (hx : ltB n x = true) : (10 : UInt8) ∉ lightL n x := by
  obtain ⟨h1, h2, h3⟩ := ltB_is hx
  obtain ⟨out, hv⟩ := IsRt.vis (w := routeX n x.2.1) ⟨h2, rfl⟩
  have hg := goodB_is h3
  unfold lightL
  simp only [List.mem_append, List.mem_cons]
  rintro (hc | hc | hc | hc | hc | hc)
  · revert hc; decide
  · exact itoa_nat_free (by omega) (by decide) hc
  · revert hc; decide
  · exact leg_free h hv (Or.inr rfl) hc
  · revert hc; decide
  · exact blkT_free (by omega) (by omega) (Or.inr rfl) hc
theorem planX_lines (P : PlanV) : planX P = linesX (headL P.net.nodes :: (P.net.fibers.map (fibL P.net.nodes) ++ P.lights.map (lightL P.net))) := by
  unfold planX
  rw [netX_lines]
  unfold linesX
  rw [List.flatMap_cons, List.flatMap_cons, List.flatMap_append, List.flatMap_map, List.flatMap_map, List.append_assoc]
theorem plan_lines {P : PlanV} (h : planB P = true) : ∀ l ∈ headL P.net.nodes :: (P.net.fibers.map (fibL P.net.nodes) ++ P.lights.map (lightL P.net)), (10 : UInt8) ∉ l := by
  have hn := planX_net h
  intro l hl
  rcases List.mem_cons.1 hl with rfl | hl
  · exact head_free hn
  · rcases List.mem_append.1 hl with hl | hl
    · obtain ⟨f, hf, rfl⟩ := List.mem_map.1 hl; exact fib_free hn hf
    · obtain ⟨x, hx, rfl⟩ := List.mem_map.1 hl; exact light_free hn (planX_lights h x hx)

/-- The mark between a network's text and its lights. -/
def sepL : List UInt8 := [10, 108, 105, 103, 104, 116, 32]
theorem occ_sep {s : List UInt8} {j : Nat} (h : Lib.occAt s sepL j = true) : s[j]? = some 10 ∧ s[j + 1]? = some 108 := by
  unfold Lib.occAt sepL at h
  have hd := List.isPrefixOf_iff_prefix.1 h
  obtain ⟨t, ht⟩ := hd
  have h0 := congrArg (fun l => l[0]?) ht
  have h1 := congrArg (fun l => l[1]?) ht
  simp only [List.getElem?_drop, List.cons_append, List.getElem?_cons_zero, List.getElem?_cons_succ] at h0 h1
  exact ⟨by simpa using h0.symm, by simpa using h1.symm⟩
theorem lines_sep : ∀ {ls : List (List UInt8)}, (∀ l ∈ ls, (10 : UInt8) ∉ l) → (∀ l ∈ ls.tail, l.head? ≠ some 108) → ∀ (y : List UInt8) (j : Nat), j + 1 < (linesX ls).length → (linesX ls ++ y)[j]? = some 10 → (linesX ls ++ y)[j + 1]? ≠ some 108
  | [], _, _, y, j, hj, _ => by simp [linesX] at hj
  | x :: t, h, ht, y, j, hj, h10 => by
    have e : linesX (x :: t) = x ++ 10 :: linesX t := by unfold linesX; rw [List.flatMap_cons]; simp
    rw [e] at hj h10 ⊢
    rcases Nat.lt_trichotomy j x.length with hlt | rfl | hgt
    · rw [List.append_assoc, List.getElem?_append_left hlt] at h10
      exact absurd (List.mem_of_getElem? h10) (h x (by simp))
    · rw [List.append_assoc, List.getElem?_append_right (by omega), List.cons_append, show x.length + 1 - x.length = 0 + 1 by omega, List.getElem?_cons_succ]
      cases t with
      | nil => simp [linesX] at hj
      | cons z u =>
        have h2 := ht z (by simp)
        have e2 : linesX (z :: u) = z ++ 10 :: linesX u := by unfold linesX; rw [List.flatMap_cons]; simp
        rw [e2]
        cases z with
        | nil => simp
        | cons a b => simpa using h2
    · rw [List.append_assoc, List.getElem?_append_right (by omega), List.cons_append, show j - x.length = (j - x.length - 1) + 1 by omega, List.getElem?_cons_succ] at h10
      rw [List.append_assoc, List.getElem?_append_right (by omega), List.cons_append, show j + 1 - x.length = (j - x.length - 1 + 1) + 1 by omega, List.getElem?_cons_succ]
      refine lines_sep (fun l hl => h l (List.mem_cons_of_mem _ hl)) (fun l hl => ht l (List.mem_of_mem_tail hl)) y _ ?_ h10
      simp at hj; omega
theorem cut_lines {ls : List (List UInt8)} (hne : ls ≠ []) (h : ∀ l ∈ ls, (10 : UInt8) ∉ l) (ht : ∀ l ∈ ls.tail, l.head? ≠ some 108) (y : List UInt8) :
    Lib.cut (linesX ls ++ ([108, 105, 103, 104, 116, 32] ++ y)) sepL = ((linesX ls).dropLast, y, true) := by
  have hj := linesX_join hne
  have hlen : (linesX ls).length = (joinC 10 ls).length + 1 := by rw [hj]; simp
  have e : linesX ls ++ ([108, 105, 103, 104, 116, 32] ++ y) = joinC 10 ls ++ (sepL ++ y) := by rw [hj]; simp [sepL]
  have hi : Lib.index (linesX ls ++ ([108, 105, 103, 104, 116, 32] ++ y)) sepL = ((joinC 10 ls).length : Int) := by
    refine Lib.index_first (by rw [e]; simp) ?_ ?_
    · unfold Lib.occAt
      rw [e, List.drop_left]
      exact List.isPrefixOf_iff_prefix.2 ⟨y, rfl⟩
    · intro j hjl
      cases ho : Lib.occAt (linesX ls ++ ([108, 105, 103, 104, 116, 32] ++ y)) sepL j with
      | false => rfl
      | true =>
        obtain ⟨o1, o2⟩ := occ_sep ho
        exact absurd o2 (lines_sep h ht _ j (by omega) o1)
  unfold Lib.cut
  rw [hi, if_pos (by omega), Int.toNat_natCast, e, List.take_left, hj, List.dropLast_concat]
  have : (joinC 10 ls ++ (sepL ++ y)).drop ((joinC 10 ls).length + sepL.length) = y := by rw [← List.append_assoc, ← List.length_append, List.drop_left]
  rw [this]
theorem cut_none {ls : List (List UInt8)} (h : ∀ l ∈ ls, (10 : UInt8) ∉ l) (ht : ∀ l ∈ ls.tail, l.head? ≠ some 108) : Lib.cut (linesX ls) sepL = (linesX ls, [], false) := by
  have hi : Lib.index (linesX ls) sepL = -1 := by
    rcases Lib.index_spec (linesX ls) sepL with ⟨h1, _⟩ | ⟨i, _, h2, h3, _⟩
    · exact h1
    · obtain ⟨o1, o2⟩ := occ_sep h3
      have hlt := (List.getElem?_eq_some_iff.1 o2).1
      have := lines_sep h ht [] i hlt (by rw [List.append_nil]; exact o1)
      rw [List.append_nil] at this
      exact absurd o2 this
  unfold Lib.cut
  rw [hi, if_neg (by omega)]
theorem net_heads (n : Net) : ∀ l ∈ (headL n.nodes :: n.fibers.map (fibL n.nodes)).tail, l.head? ≠ some 108 := by
  intro l hl
  obtain ⟨f, _, rfl⟩ := List.mem_map.1 hl
  unfold fibL; simp
/-- The program's cut of a plan's text. -/
theorem plan_cut {P : PlanV} (h : planB P = true) : (P.lights = [] ∧ Lib.cut (planX P) sepL = (planX P, [], false) ∧ planX P = netX P.net) ∨
    ∃ hd tl, P.lights ≠ [] ∧ Lib.cut (planX P) sepL = (hd, tl, true) ∧ hd ++ [10] = netX P.net ∧ [108, 105, 103, 104, 116, 32] ++ tl = linesX (P.lights.map (lightL P.net)) := by
  have hn := planX_net h
  have hne : headL P.net.nodes :: P.net.fibers.map (fibL P.net.nodes) ≠ [] := by simp
  cases hl : P.lights with
  | nil =>
    have e : planX P = netX P.net := by unfold planX; rw [hl]; simp
    exact Or.inl ⟨rfl, by rw [e, netX_lines]; exact cut_none (net_lines hn) (net_heads _), e⟩
  | cons x t =>
    refine Or.inr ⟨(netX P.net).dropLast, Lib.itoa x.1 ++ (32 :: (routeX P.net x.2.1 ++ (32 :: blkT x.2.2.1 x.2.2.2))) ++ 10 :: linesX (t.map (lightL P.net)), by simp, ?_, ?_, ?_⟩
    · have e : planX P = linesX (headL P.net.nodes :: P.net.fibers.map (fibL P.net.nodes)) ++ ([108, 105, 103, 104, 116, 32] ++ (Lib.itoa x.1 ++ (32 :: (routeX P.net x.2.1 ++ (32 :: blkT x.2.2.1 x.2.2.2))) ++ 10 :: linesX (t.map (lightL P.net)))) := by
        unfold planX
        rw [hl, List.flatMap_cons, netX_lines]
        unfold lightL linesX
        rw [List.flatMap_map]; simp
      rw [e, cut_lines hne (net_lines hn) (net_heads _), netX_lines]
    · rw [netX_lines, linesX_join hne, List.dropLast_concat]
    · unfold linesX lightL
      rw [List.map_cons, List.flatMap_cons]; simp
end Go.Proofs.YtjhaoonacjebpaaGreatDoor
