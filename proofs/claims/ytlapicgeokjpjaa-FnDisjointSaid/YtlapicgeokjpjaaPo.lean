/- Contracts: the partner of a route: the plain law, a route's end on both sides. -/
import Derived.Test.YtlapicgeokjpjaaTr
import Derived.Test.YtlapicgeokjpjaaM5
namespace Go.Proofs.Ytlapicgeokjpjaa
open Go.RowKit Go.PlainAid

/-- Where a route ends. -/
def endW (n : Net) (R : Int × List Int) : Int := lastI ((walkR n.fibers R.1 R.2).getD [])
theorem vis_good {n : Net} {s : Int} {l : List Int} (h : isVis n s l = true) : (0 ≤ s ∧ s < (n.nodes.length : Int)) ∧ RtGood n s (endW n (s, l)) l := by
  unfold isVis visR at h
  split at h
  · rename_i hc
    obtain ⟨out, ho⟩ := Option.isSome_iff_exists.1 h
    refine ⟨by have := inB_iff.1 hc.1; omega, fun e => hc.2 (by rw [e]; rfl), out, ho, ?_⟩
    unfold endW; rw [ho]; rfl
  · cases h
def partB (n : Net) (R : Int × List Int) (k : Int) : Bool := (netB n && isVis n R.1 R.2) && kindB k
def prtF (n : Net) (R : Int × List Int) (k : Int) : Option (Int × List Int) := (allR n R.1 (endW n R)).find? fun y => disjB n R.1 R.2 y.2 k
def partF (n : Net) (R : Int × List Int) (k : Int) : (Int × List Int) × Bool × Bool := if partB n R k && okA n R.1 (endW n R) then ((prtF n R k).getD (0, []), (prtF n R k).isSome, true) else ((0, []), false, false)
theorem partF_no {n : Net} {R : Int × List Int} {k : Int} (h : (partB n R k && okA n R.1 (endW n R)) = false) : partF n R k = ((0, []), false, false) := by unfold partF; rw [h]; rfl
theorem partF_yes {n : Net} {R : Int × List Int} {k : Int} (h1 : partB n R k = true) (h2 : okA n R.1 (endW n R) = true) : partF n R k = ((prtF n R k).getD (0, []), (prtF n R k).isSome, true) := by unfold partF; rw [h1, h2]; rfl
theorem find_val {l : List LR} {P : List Int → Bool} : (l.map LR.val).find? (fun y => P y.2) = (l.find? fun y => P y.fibs).map LR.val := by
  rw [List.find?_map]; rfl
theorem rt_none (w : World) (base : Nat) : RtOwn w base (.agg #[.int .i64 0, .slice none 0 0]) (0, []) := ⟨none, 0, rfl, Or.inl ⟨rfl, rfl⟩⟩
theorem rtV_own {w : World} {base : Nat} {V : Value} {l : List LR} (h : Rts w base V l) {P : LR → Bool} : RtOwn w base (rtV (l.find? P)) (((l.find? P).map LR.val).getD (0, [])) := by
  cases hf : l.find? P with
  | none => exact rt_none w base
  | some y => exact ⟨y.q, y.cap, rfl, h.fib y (List.mem_of_find?_eq_some hf)⟩
set_option maxHeartbeats 1000000 in
theorem endOf_any (v : Value) (n : Net) (s : Int) (q : Option Addr) (cap : Nat) (l : List Int) (w : World) (h : NetIn w v n) (hl : Ints w q l) (hn : l.length ≤ 1048576) (hv : isVis n s l = true) :
    Calls Try.prog 20 #[v, .agg #[.int .i64 s, .slice q l.length cap]] w fun e w' => e = .returned (.int .i64 (endW n (s, l))) ∧ Fresh w w' := by
  obtain ⟨out, hout⟩ : ∃ out, visR n.nodes.length n.fibers s l = some out := Option.isSome_iff_exists.1 hv
  have hw : walkR n.fibers s l = some out := by
    unfold visR at hout
    split at hout
    · exact hout
    · cases hout
  have hlen : out.length = l.length + 1 := walk_len (k := l.length) (F := n.fibers) (s := s) (l := l) (out := out) (Nat.le_refl _) (by rw [List.take_length]; exact hw)
  have hpos : 0 < out.length := by omega
  have HE : Hid (lastI out = endW n (s, l)) := by show _ = _; unfold endW; rw [hw]; rfl
  have HN := Lib.hid h
  obtain ⟨q1, m, c, p, k, d, rfl⟩ := h.shape
  clear hv h hw
  obtain ⟨W2, hW2, hsz2, hf2, r1, r2⟩ := two_rows w [.slice q1 m c, .slice p k d] [.int .i64 s, .slice q l.length cap] 27 30
  have HC := Lib.hid (visited_any _ n s q cap l W2 (HN.out.keep hf2) (hl.keep hf2) hn)
  rw [hout] at HC
  have HF2 := Lib.hid hf2
  have HW2 := Lib.hid hW2
  clear hW2 hsz2 hf2 r1 r2 hl hout
  go_enter Try.func20, Try.ntmps20
  go_wp2_with fail
  rw [← HW2.out]
  refine (HC.out).mono ?_
  rintro e w1 ⟨po, co, xs, rfl, hb, hx⟩
  obtain ⟨rfl, ho⟩ := hx _ rfl
  obtain ⟨b, off, rfl, hc⟩ := last_cell ho.ints hpos
  have HF := Lib.hid (fstep HF2.out hb)
  have e1 : IntKind.i64.wrap ((xs.length : Int) - 1) = (xs.length : Int) - 1 := by rw [IntKind.wrap_i64]; omega
  have e2 : ((xs.length : Int) - 1).toNat = xs.length - 1 := by omega
  have e3 : 1 ≤ xs.length := hpos
  clear hb ho hx hlen HC
  go_wp2
  go_ret
  exact ⟨ret_int HE.out, HF.out⟩
set_option maxHeartbeats 1000000 in
theorem l4End_any (v : Value) (n : Net) (s : Int) (q : Option Addr) (cap : Nat) (l : List Int) (w : World) (h : NetIn w v n) (hnet : netB n = true) (hl : Ints w q l) (hv : isVis n s l = true) :
    Calls Try.prog 15 #[v, .agg #[.int .i64 s, .slice q l.length cap]] w fun e w' => e = .returned (.int .i64 (endW n (s, l))) ∧ Fresh w w' := by
  obtain ⟨hs, hg⟩ := vis_good hv
  obtain ⟨out, hw⟩ : ∃ out, walkR n.fibers s l = some out := by obtain ⟨_, o, h1, _⟩ := hg; exact ⟨o, h1⟩
  have hno : nodesR n s l = out := by unfold nodesR; rw [hw]; rfl
  have hlen : out.length = l.length + 1 := walk_len (k := l.length) (F := n.fibers) (s := s) (l := l) (out := out) (Nat.le_refl _) (by rw [List.take_length]; exact hw)
  have hll := (rt_ok hnet hs hg).2
  have hpos : 0 < out.length := by omega
  have HE : Hid (lastI out = endW n (s, l)) := by show _ = _; unfold endW; rw [hw]; rfl
  have HN := Lib.hid h
  obtain ⟨q1, m, c, p, k, d, rfl⟩ := h.shape
  clear h hw
  obtain ⟨W2, hW2, hsz2, hf2, r1, r2⟩ := two_rows w [.slice q1 m c, .slice p k d] [.int .i64 s, .slice q l.length cap] 27 30
  have HC := Lib.hid (l4Nodes_any _ n s _ q cap l W2 (HN.out.keep hf2) hnet hs hg (hl.keep hf2))
  rw [hno] at HC
  have HF2 := Lib.hid hf2
  have HW2 := Lib.hid hW2
  clear hW2 hsz2 hf2 r1 r2 hl hno hg hs hv
  go_enter Try.func15, Try.ntmps15
  go_wp2_with fail
  rw [← HW2.out]
  refine (HC.out).mono ?_
  rintro e w1 ⟨po, co, rfl, ho, hb⟩
  obtain ⟨b, off, rfl, hc⟩ := last_cell ho.ints hpos
  have HF := Lib.hid (fstep HF2.out hb)
  have e1 : IntKind.i64.wrap ((out.length : Int) - 1) = (out.length : Int) - 1 := by rw [IntKind.wrap_i64]; omega
  have e2 : ((out.length : Int) - 1).toNat = out.length - 1 := by omega
  have e3 : 1 ≤ out.length := hpos
  clear hb ho HC hlen
  go_wp2
  go_ret
  exact ⟨ret_int HE.out, HF.out⟩
end Go.Proofs.Ytlapicgeokjpjaa
