/- Plain: the text of a network, and how it is read (no program in sight). -/
import Derived.Test.YtjhaoonacjebpaaGreatDoorU3
import Derived.Test.YtjhaoonacjebpaaGreatDoorBkT
namespace Go.Proofs.YtjhaoonacjebpaaGreatDoor
open Go.RowKit Go.PlainAid

/-- The bytes of names. -/
theorem name_bytes {s : ByteArray} (h : nameB s = true) : ∀ b ∈ bs s, (97 ≤ b.toNat ∧ b.toNat ≤ 122) ∨ (48 ≤ b.toNat ∧ b.toNat ≤ 57) := by
  intro b hb
  obtain ⟨k, hk, he⟩ := List.mem_iff_getElem.1 hb
  have hks : k < s.size := by simpa [bs] using hk
  have hok : okC s k = true := by
    unfold nameB at h
    rw [Bool.and_eq_true] at h
    exact List.all_eq_true.1 h.1 k (List.mem_range.2 hks)
  have hbt : bt s k = (b.toNat : Int) := by
    unfold bt; rw [dif_pos hks, ← he]; simp [bs]; rfl
  unfold okC letB digB inB at hok
  rw [hbt] at hok
  simp at hok
  omega
theorem name_free {s : ByteArray} (h : nameB s = true) {c : UInt8} (hc : ¬ ((97 ≤ c.toNat ∧ c.toNat ≤ 122) ∨ (48 ≤ c.toNat ∧ c.toNat ≤ 57))) : c ∉ bs s := fun hm => hc (name_bytes h c hm)
theorem netB_names {n : Net} (h : netB n = true) : ∀ s ∈ n.nodes, nameB s = true := by
  intro s hs
  obtain ⟨k, hk⟩ := List.getElem?_of_mem hs
  unfold netB at h
  simp only [Bool.and_eq_true] at h
  have := List.all_eq_true.1 h.1.2 k (List.mem_range.2 (List.getElem?_eq_some_iff.1 hk).1)
  rw [nameAt_of hk] at this
  simp at this; exact this.1
theorem netB_idx {n : Net} (h : netB n = true) {k : Nat} {s : ByteArray} (hk : n.nodes[k]? = some s) : idxL n.nodes s = k := by
  unfold netB at h
  simp only [Bool.and_eq_true] at h
  have := List.all_eq_true.1 h.1.2 k (List.mem_range.2 (List.getElem?_eq_some_iff.1 hk).1)
  rw [nameAt_of hk] at this
  simp at this; exact this.2
theorem netB_fibs {n : Net} (h : netB n = true) : ∀ f ∈ n.fibers, fibB n.nodes.length f = true := by
  intro f hf
  obtain ⟨k, hk⟩ := List.getElem?_of_mem hf
  unfold netB at h
  simp only [Bool.and_eq_true] at h
  exact fibAt_good hk (List.all_eq_true.1 h.2 k (List.mem_range.2 (List.getElem?_eq_some_iff.1 hk).1))
theorem fibB_is {N : Int} {f : Fib} (h : fibB N f = true) : 0 ≤ f.a ∧ f.a < f.b ∧ f.b < N ∧ 1 ≤ f.len ∧ f.len ≤ 5000 ∧ 0 ≤ f.risk ∧ f.risk ≤ 9 := by
  unfold fibB inB at h; simp at h; omega
theorem netB_len {n : Net} (h : netB n = true) : 2 ≤ n.nodes.length ∧ n.nodes.length ≤ 8 ∧ n.fibers.length ≤ 14 := by
  unfold netB inB at h; simp at h; omega

/-- The name of a node. -/
def nmL (l : List ByteArray) (k : Int) : List UInt8 := (l[k.toNat]?.map bs).getD []
theorem nmL_at {l : List ByteArray} {k : Nat} {s : ByteArray} (h : l[k]? = some s) : nmL l (k : Int) = bs s := by unfold nmL; rw [Int.toNat_natCast, h]; rfl
def headL (l : List ByteArray) : List UInt8 := [110, 111, 100, 101, 115] ++ l.flatMap fun s => 32 :: bs s
def riskL (r : Int) : List UInt8 := if 0 < r then [32, 114, 105, 115, 107, 32] ++ Lib.itoa r else []
def fibL (l : List ByteArray) (f : Fib) : List UInt8 := [102, 105, 98, 101, 114, 32] ++ (nmL l f.a ++ (32 :: (nmL l f.b ++ (32 :: (Lib.itoa f.len ++ riskL f.risk)))))
/-- The text of a network. -/
def netX (n : Net) : List UInt8 := headL n.nodes ++ [10] ++ n.fibers.flatMap fun f => fibL n.nodes f ++ [10]
theorem nm_free {n : Net} (h : netB n = true) {k : Int} {c : UInt8} (hc : ¬ ((97 ≤ c.toNat ∧ c.toNat ≤ 122) ∨ (48 ≤ c.toNat ∧ c.toNat ≤ 57))) : c ∉ nmL n.nodes k := by
  unfold nmL
  cases hs : n.nodes[k.toNat]? with
  | none => simp
  | some s => exact name_free (netB_names h s (List.mem_of_getElem? hs)) hc
theorem itoa_nat_free {n : Int} {c : UInt8} (h0 : 0 ≤ n) (h : ¬ (48 ≤ c.toNat ∧ c.toNat ≤ 57)) : c ∉ Lib.itoa n := by
  rw [itoa_nat h0]; exact fun hc => h (digits_are c hc)
theorem head_free {n : Net} (h : netB n = true) : (10 : UInt8) ∉ headL n.nodes := by
  unfold headL
  rw [List.mem_append, List.mem_flatMap]
  rintro (hc | ⟨s, hs, hc⟩)
  · revert hc; decide
  · rcases List.mem_cons.1 hc with hc | hc
    · revert hc; decide
    · exact name_free (netB_names h s hs) (by decide) hc
theorem fib_free {n : Net} (h : netB n = true) {f : Fib} (hf : f ∈ n.fibers) : (10 : UInt8) ∉ fibL n.nodes f := by
  have hb := fibB_is (netB_fibs h f hf)
  unfold fibL riskL
  simp only [List.mem_append, List.mem_cons]
  rintro (hc | hc | hc | hc | hc | hc | hc)
  · revert hc; decide
  · exact nm_free h (by decide) hc
  · revert hc; decide
  · exact nm_free h (by decide) hc
  · revert hc; decide
  · exact itoa_nat_free (by omega) (by decide) hc
  · split at hc
    · rcases List.mem_append.1 hc with hc | hc
      · revert hc; decide
      · exact itoa_nat_free (by omega) (by decide) hc
    · revert hc; decide
/-- Lines, each with its end. -/
def linesX (ls : List (List UInt8)) : List UInt8 := ls.flatMap fun l => l ++ [10]
theorem netX_lines (n : Net) : netX n = linesX (headL n.nodes :: n.fibers.map (fibL n.nodes)) := by
  unfold netX linesX; rw [List.flatMap_cons, List.flatMap_map]
theorem linesX_split : ∀ {ls : List (List UInt8)}, (∀ l ∈ ls, (10 : UInt8) ∉ l) → splitC 10 (linesX ls) = ls ++ [[]]
  | [], _ => rfl
  | x :: t, h => by
    have : linesX (x :: t) = x ++ 10 :: linesX t := by unfold linesX; rw [List.flatMap_cons]; simp
    rw [this, splitC_app (h x (by simp)), linesX_split (fun l hl => h l (List.mem_cons_of_mem _ hl))]; rfl
theorem linesX_join : ∀ {ls : List (List UInt8)}, ls ≠ [] → linesX ls = joinC 10 ls ++ [10]
  | [], h => absurd rfl h
  | [x], _ => by simp [linesX, joinC]
  | x :: y :: t, _ => by
    have : linesX (x :: y :: t) = x ++ 10 :: linesX (y :: t) := by unfold linesX; rw [List.flatMap_cons]; simp
    rw [this, linesX_join (by simp), joinC_cons 10 x (by simp)]; simp
theorem linesX_body {ls : List (List UInt8)} (hne : ls ≠ []) (h : ∀ l ∈ ls, (10 : UInt8) ∉ l) : splitC 10 (linesX ls).dropLast = ls := by
  rw [linesX_join hne, List.dropLast_concat]; exact splitC_joinC hne h
theorem linesX_end {ls : List (List UInt8)} (hne : ls ≠ []) : (linesX ls).getLast? = some 10 := by
  rw [linesX_join hne]; simp
theorem net_lines {n : Net} (h : netB n = true) : ∀ l ∈ headL n.nodes :: n.fibers.map (fibL n.nodes), (10 : UInt8) ∉ l := by
  intro l hl
  rcases List.mem_cons.1 hl with rfl | hl
  · exact head_free h
  · obtain ⟨f, hf, rfl⟩ := List.mem_map.1 hl
    exact fib_free h hf
theorem split_names : ∀ {l : List ByteArray}, (∀ s ∈ l, (32 : UInt8) ∉ bs s) → ∀ {x : List UInt8}, (32 : UInt8) ∉ x → splitC 32 (x ++ l.flatMap fun s => 32 :: bs s) = x :: l.map bs
  | [], _, x, hx => by simp [splitC_none hx]
  | s :: t, h, x, hx => by
    rw [List.flatMap_cons, List.cons_append, splitC_app hx, split_names (fun y hy => h y (List.mem_cons_of_mem _ hy)) (h s (by simp))]; rfl
theorem head_words {n : Net} (h : netB n = true) : splitC 32 (headL n.nodes) = [110, 111, 100, 101, 115] :: n.nodes.map bs :=
  split_names (fun s hs => name_free (netB_names h s hs) (by decide)) (by decide)
theorem fib_words {n : Net} (h : netB n = true) {f : Fib} (hf : f ∈ n.fibers) :
    splitC 32 (fibL n.nodes f) = [102, 105, 98, 101, 114] :: nmL n.nodes f.a :: nmL n.nodes f.b :: Lib.itoa f.len :: (if 0 < f.risk then [[114, 105, 115, 107], Lib.itoa f.risk] else []) := by
  have hb := fibB_is (netB_fibs h f hf)
  unfold fibL riskL
  rw [show ([102, 105, 98, 101, 114, 32] : List UInt8) ++ (nmL n.nodes f.a ++ (32 :: (nmL n.nodes f.b ++ (32 :: (Lib.itoa f.len ++ (if 0 < f.risk then [32, 114, 105, 115, 107, 32] ++ Lib.itoa f.risk else [])))))) = [102, 105, 98, 101, 114] ++ 32 :: (nmL n.nodes f.a ++ (32 :: (nmL n.nodes f.b ++ (32 :: (Lib.itoa f.len ++ (if 0 < f.risk then [32, 114, 105, 115, 107, 32] ++ Lib.itoa f.risk else [])))))) from by simp]
  rw [splitC_app (by decide), splitC_app (nm_free h (by decide)), splitC_app (nm_free h (by decide))]
  split
  · rw [show Lib.itoa f.len ++ ([32, 114, 105, 115, 107, 32] ++ Lib.itoa f.risk) = Lib.itoa f.len ++ 32 :: ([114, 105, 115, 107] ++ 32 :: Lib.itoa f.risk) from by simp]
    rw [splitC_app (itoa_nat_free (by omega) (by decide)), splitC_app (by decide), splitC_none (itoa_nat_free (by omega) (by decide))]
  · rw [List.append_nil, splitC_none (itoa_nat_free (by omega) (by decide))]
theorem node_idx {n : Net} (h : netB n = true) {k : Int} (h0 : 0 ≤ k) (hk : k < n.nodes.length) : ∃ s, n.nodes[k.toNat]? = some s ∧ nmL n.nodes k = bs s ∧ idxL n.nodes (ba (nmL n.nodes k)) = k := by
  have hlt : k.toNat < n.nodes.length := by omega
  have e := List.getElem?_eq_getElem hlt
  refine ⟨_, e, ?_, ?_⟩
  · unfold nmL; rw [e]; rfl
  · unfold nmL
    rw [e]
    show idxL n.nodes (ba (bs _)) = k
    rw [ba_bs, netB_idx h e]; omega
/-- A text is the text of a valid network. -/
def IsNet (s : List UInt8) (n : Net) : Prop := netB n = true ∧ netX n = s ∧ s.length ≤ 4000
end Go.Proofs.YtjhaoonacjebpaaGreatDoor
