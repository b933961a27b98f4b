/- Plain laws: services (no program in sight). -/
import Derived.Test.YtipbbfeimdobeaaSv
import Derived.Test.YtipbbfeimdobeaaGrP
import Derived.Test.YtipbbfeimdobeaaU5
namespace Go.Proofs.Ytipbbfeimdobeaa
open Go.RowKit

/-- A block, or no block at all. -/
def BOk (b : Int × Int) : Prop := goodB b.1 b.2 = true ∨ b = (0, 0)
theorem mkF_zero : mkF 0 0 = 0 := by unfold mkF; simp [wrap64]
theorem mkF_ok {b : Int × Int} (h : BOk b) : ∃ m : Nat, mkF b.1 b.2 = (m : Int) ∧ m < 16777216 ∧ (goodB b.1 b.2 = true → 1 ≤ m) := by
  rcases h with h | rfl
  · obtain ⟨e1, e2, e3⟩ := mkN_ok h
    exact ⟨mkN (b.1, b.2), e1, e3, fun _ => e2⟩
  · exact ⟨0, mkF_zero, by omega, fun h => by simp [goodB, inB] at h⟩
theorem meet_zeroL (y : Int × Int) : meetB (0, 0) y = false := by
  unfold meetB
  rw [mkF_zero]
  have e : bits BinOp.and IntKind.i64 0 (mkF y.1 y.2) = 0 := by
    unfold bits
    simp [IntKind.wrap_i64]
  rw [e]; rfl
theorem meet_zeroR {x : Int × Int} (h : BOk x) : meetB x (0, 0) = false := by
  obtain ⟨m, e, hm, _⟩ := mkF_ok h
  unfold meetB
  show (!(bits BinOp.and IntKind.i64 (mkF x.1 x.2) (mkF 0 0) == 0)) = false
  rw [e, mkF_zero]
  have := and_i64 m 0 (by omega) (by omega)
  rw [Nat.and_zero] at this
  have e2 : bits BinOp.and IntKind.i64 (m : Int) 0 = 0 := this
  rw [e2]; rfl
def clashB (a : List Int) (x : Int × Int) (b : List Int) (y : Int × Int) : Bool := meetB x y && usesB a b
/-- The node at which a route ends. -/
def endR (n : Net) (R : Int × List Int) : Int := match visR n.nodes.length n.fibers R.1 R.2 with | some out => lastI out | none => 0
def zeroS (x : SvV) : Bool := decide (x.s.1 = 0) && decide (x.s.2.length = 0) && (decide (x.sb.1 = 0) && decide (x.sb.2 = 0))
def svB (n : Net) (x : SvV) : Bool := inB x.id 1 999 && inB x.cls 0 2 && isVis n x.w.1 x.w.2 && goodB x.wb.1 x.wb.2 &&
  (if x.cls = 0 then zeroS x else isVis n x.s.1 x.s.2 && goodB x.sb.1 x.sb.2 && decide (x.s.1 = x.w.1) && decide (endR n x.s = endR n x.w) && apartF n.fibers x.w.2 x.s.2)
theorem svB_blocks {n : Net} {x : SvV} (h : svB n x = true) : goodB x.wb.1 x.wb.2 = true ∧ BOk x.sb := by
  unfold svB at h
  simp only [Bool.and_eq_true] at h
  refine ⟨h.1.2, ?_⟩
  have h2 := h.2
  split at h2
  · unfold zeroS at h2
    simp only [Bool.and_eq_true, decide_eq_true_eq] at h2
    exact Or.inr (Prod.ext h2.2.1 h2.2.2)
  · simp only [Bool.and_eq_true] at h2
    exact Or.inl h2.1.1.1.2
theorem svB_routes {n : Net} {x : SvV} (h : svB n x = true) : isVis n x.w.1 x.w.2 = true ∧ (x.s.2 = [] ∨ isVis n x.s.1 x.s.2 = true) := by
  unfold svB at h
  simp only [Bool.and_eq_true] at h
  refine ⟨h.1.1.2, ?_⟩
  have h2 := h.2
  split at h2
  · unfold zeroS at h2
    simp only [Bool.and_eq_true, decide_eq_true_eq] at h2
    exact Or.inl (List.length_eq_zero_iff.1 h2.1.2)
  · simp only [Bool.and_eq_true] at h2
    exact Or.inr h2.1.1.1.1
theorem netB_risk {n : Net} (h : netB n = true) : RiskOk n.fibers := by
  intro f hf
  obtain ⟨k, hk⟩ := List.mem_iff_getElem?.1 hf
  have hlt : k < n.fibers.length := by
    rcases Nat.lt_or_ge k n.fibers.length with h' | h'
    · exact h'
    · rw [List.getElem?_eq_none h'] at hk; cases hk
  unfold netB at h
  simp only [Bool.and_eq_true, List.all_eq_true] at h
  have h2 := h.2 k (List.mem_range.2 hlt)
  unfold fibAt at h2
  rw [hk] at h2
  simp only [Bool.and_eq_true] at h2
  have h3 := h2.1
  unfold fibB at h3
  simp only [Bool.and_eq_true, inB_iff] at h3
  exact h3.2
theorem vis_inF {n : Net} {s : Int} {l : List Int} (h : isVis n s l = true) : InF n.fibers l := (vis_nodupF h).2
theorem svB_inF {n : Net} {x : SvV} (h : svB n x = true) : InF n.fibers x.w.2 ∧ InF n.fibers x.s.2 := by
  obtain ⟨h1, h2⟩ := svB_routes h
  refine ⟨vis_inF h1, ?_⟩
  rcases h2 with h2 | h2
  · rw [h2]; intro i hi; cases hi
  · exact vis_inF h2
/-- Two services that go together. -/
def compB (n : Net) (a b : SvV) : Bool :=
  !(clashB a.w.2 a.wb b.w.2 b.wb) && !(clashB a.w.2 a.wb b.s.2 b.sb) && !(clashB a.s.2 a.sb b.w.2 b.wb) &&
    ((decide (a.cls = 2) && decide (b.cls = 2) && apartF n.fibers a.w.2 b.w.2) || !(clashB a.s.2 a.sb b.s.2 b.sb))
def svOrd (L : List SvV) (k : Nat) (x : SvV) : Bool := match L[k - 1]? with | some y => decide (k = 0) || decide (y.id < x.id) | none => true
def svAt (n : Net) (L : List SvV) (k : Nat) : Bool := match L[k]? with | some x => svB n x && svOrd L k x && !((L.take k).any fun y => !(compB n y x)) | none => true
def svsB (n : Net) (L : List SvV) : Bool := netB n && decide (L.length ≤ 8) && (List.range L.length).all (svAt n L)
theorem svAt_of {n : Net} {L : List SvV} {k : Nat} {x : SvV} (hx : L[k]? = some x) : svAt n L k = (svB n x && svOrd L k x && !((L.take k).any fun y => !(compB n y x))) := by unfold svAt; rw [hx]
theorem svOrd_first (L : List SvV) (x : SvV) : svOrd L 0 x = true := by
  unfold svOrd
  cases L[0 - 1]? with
  | none => rfl
  | some y => simp
theorem svOrd_next {L : List SvV} {k : Nat} {x y : SvV} (h0 : 0 < k) (hy : L[k - 1]? = some y) : svOrd L k x = decide (y.id < x.id) := by
  unfold svOrd
  rw [hy]
  have : ¬ k = 0 := by omega
  simp [this]
theorem svsB_net {n : Net} {L : List SvV} (h : netB n = false) : svsB n L = false := by unfold svsB; rw [h]; rfl
theorem svsB_long {n : Net} {L : List SvV} (h : ¬ L.length ≤ 8) : svsB n L = false := by unfold svsB; rw [decide_eq_false h]; simp
theorem svsB_bad {n : Net} {L : List SvV} {k : Nat} (hk : k < L.length) (h : svAt n L k = false) : svsB n L = false := by
  unfold svsB
  rw [show (List.range L.length).all (svAt n L) = false from rall_bad hk h]
  simp
theorem svsB_end {n : Net} {L : List SvV} (h1 : netB n = true) (h2 : L.length ≤ 8) (h : ∀ k, k < L.length → svAt n L k = true) : svsB n L = true := by
  unfold svsB
  rw [h1, decide_eq_true h2, show (List.range L.length).all (svAt n L) = true from rall_end h]
  rfl
theorem svsB_at {n : Net} {L : List SvV} (h : svsB n L = true) : netB n = true ∧ L.length ≤ 8 ∧ ∀ x ∈ L, svB n x = true := by
  unfold svsB at h
  simp only [Bool.and_eq_true, decide_eq_true_eq, List.all_eq_true] at h
  refine ⟨h.1.1, h.1.2, fun x hx => ?_⟩
  obtain ⟨k, hk⟩ := List.mem_iff_getElem?.1 hx
  have hlt : k < L.length := by
    rcases Nat.lt_or_ge k L.length with h' | h'
    · exact h'
    · rw [List.getElem?_eq_none h'] at hk; cases hk
  have h2 := h.2 k (List.mem_range.2 hlt)
  rw [svAt_of hk] at h2
  simp only [Bool.and_eq_true] at h2
  exact h2.1.1
theorem svNone {n : Net} {L : List SvV} {x : SvV} {k : Nat} (h : ∀ i y, i < k → L[i]? = some y → compB n y x = true) : ((L.take k).any fun y => !(compB n y x)) = false := by
  rw [List.any_eq_false]
  intro y hy
  obtain ⟨i, hi⟩ := List.mem_iff_getElem?.1 hy
  rw [List.getElem?_take] at hi
  split at hi
  · next hlt => rw [h i y hlt hi]; simp
  · cases hi
theorem svSome {n : Net} {L : List SvV} {x y : SvV} {k j : Nat} (hj : j < k) (hy : L[j]? = some y) (hc : compB n y x = false) : ((L.take k).any fun y => !(compB n y x)) = true := by
  rw [List.any_eq_true]
  refine ⟨y, List.mem_iff_getElem?.2 ⟨j, ?_⟩, by rw [hc]; rfl⟩
  rw [List.getElem?_take, if_pos hj]; exact hy
theorem svStep {n : Net} {L : List SvV} {x : SvV} {j : Nat} {y : SvV} (h : ∀ i y, i < j → L[i]? = some y → compB n y x = true) (hy : L[j]? = some y) (hc : compB n y x = true) : ∀ i y, i < j + 1 → L[i]? = some y → compB n y x = true := by
  intro i z hi hz
  rcases Nat.lt_or_ge i j with h' | h'
  · exact h i z h' hz
  · have : i = j := by omega
    subst this; rw [hy] at hz; cases hz; exact hc
theorem walk_head {F : List Fib} {s : Int} {l : List Int} : ∀ {k : Nat} {out : List Int}, k ≤ l.length → walkR F s (l.take k) = some out → out[0]? = some s := by
  intro k
  induction k with
  | zero => intro out _ h; simp [walkR] at h; rw [← h]; rfl
  | succ k ih =>
    intro out hk h
    have hx : l[k]? = some l[k] := List.getElem?_eq_getElem (by omega)
    cases hp : walkR F s (l.take k) with
    | none =>
      unfold walkR at h hp
      rw [List.take_add_one, hx, List.foldl_append, hp] at h
      simp at h
    | some o =>
      rw [walk_step hp hx] at h
      have h0 := ih (by omega) hp
      unfold stepR at h
      split at h
      · split at h
        · split at h
          · cases h
          · cases h
            rw [List.getElem?_append_left (by rcases Nat.lt_or_ge 0 o.length with h' | h'; exact h'; rw [List.getElem?_eq_none h'] at h0; cases h0)]
            exact h0
        · cases h
      · cases h
theorem vis_head {n : Net} {s : Int} {l out : List Int} (h : visR n.nodes.length n.fibers s l = some out) : out[0]? = some s ∧ 0 < out.length ∧ endR n (s, l) = lastI out := by
  have h1 : out[0]? = some s := by
    have h' := h
    unfold visR at h'
    split at h'
    · have := walk_head (k := l.length) (F := n.fibers) (s := s) (l := l) (out := out) (Nat.le_refl _) (by rw [List.take_length]; exact h')
      exact this
    · cases h'
  refine ⟨h1, ?_, ?_⟩
  · rcases Nat.lt_or_ge 0 out.length with h' | h'
    · exact h'
    · rw [List.getElem?_eq_none h'] at h1; cases h1
  · unfold endR; rw [h]
end Go.Proofs.Ytipbbfeimdobeaa
