/- Texts of mine laid together (Lt, Lt2, Pl, Lw, Lw2, Pv, Pv2, Pv3, OpenP, KBlk, OpenB): contracts of functions and plain laws. -/
import Derived.Test.YtipbbfeimdobeaaU3
import Derived.Test.YtipbbfeimdobeaaU1
import Derived.StillTailTactics
import Derived.Test.YtipbbfeimdobeaaU2
import Derived.Deep.RegionHeld3
/- Contracts: lights: sizes, copies, comparisons. -/
namespace Go.Proofs.Ytipbbfeimdobeaa
open Go.RowKit Go.PlainAid

/-- A light as it lies in memory. -/
structure LL where
  id : Int
  r : LR
  f : Int
  c : Int
abbrev llC (x : LL) : List Value := [iv x.id, iv x.r.start, .slice x.r.q x.r.fibs.length x.r.cap, iv x.f, iv x.c]
abbrev llV (x : LL) : Value := .agg #[iv x.id, iv x.r.start, .slice x.r.q x.r.fibs.length x.r.cap, iv x.f, iv x.c]
/-- A light as such: its number, its route, its block. -/
abbrev LtV := Int × (Int × List Int) × (Int × Int)
abbrev LL.val (x : LL) : LtV := (x.id, x.r.val, (x.f, x.c))
def Lts (w : World) (p : Option Addr) (l : List LL) : Prop := Cells w p (l.flatMap llC) ∧ ∀ x ∈ l, Ints w x.r.q x.r.fibs
theorem Lts.keep {w w' : World} {p : Option Addr} {l : List LL} (h : Lts w p l) (hb : Fresh w w') : Lts w' p l := ⟨h.1.keep hb, fun x hx => (h.2 x hx).keep hb⟩
theorem ll_get {l : List LL} {k : Nat} {f : LL} (hx : l[k]? = some f) (r : Nat) (hr : r < 5) : (l.flatMap llC)[k * 5 + r]? = (llC f)[r]? := flat_get llC 5 (fun _ => rfl) l k r hr f hx
theorem Lts.at {w : World} {p : Option Addr} {l : List LL} (h : Lts w p l) {k : Nat} (hk : k < l.length) :
    ∃ b off x, p = some ⟨b, off, none⟩ ∧ l[k]? = some x ∧ x ∈ l ∧ Ints w x.r.q x.r.fibs ∧ w.cell? ⟨b, off + k * 5, none⟩ = some (.int .i64 x.id) ∧ w.cell? ⟨b, off + k * 5 + 1, none⟩ = some (.int .i64 x.r.start) ∧ w.cell? ⟨b, off + k * 5 + 2, none⟩ = some (.slice x.r.q x.r.fibs.length x.r.cap) ∧ w.cell? ⟨b, off + k * 5 + 3, none⟩ = some (.int .i64 x.f) ∧ w.cell? ⟨b, off + k * 5 + 4, none⟩ = some (.int .i64 x.c) := by
  obtain ⟨b, off, rfl, hc⟩ := Cells.at h.1 (k := k) (by rw [flat_len llC 5 (fun _ => rfl)]; omega)
  have hx : l[k]? = some l[k] := by simp [hk]
  refine ⟨b, off, _, rfl, hx, List.getElem_mem hk, h.2 _ (List.getElem_mem hk), hc _ _ ?_, ?_, ?_, ?_, ?_⟩
  · have := ll_get hx 0 (by omega); simpa using this
  · have := hc (k * 5 + 1) _ (by rw [ll_get hx 1 (by omega)]; rfl); rw [← Nat.add_assoc] at this; exact this
  · have := hc (k * 5 + 2) _ (by rw [ll_get hx 2 (by omega)]; rfl); rw [← Nat.add_assoc] at this; exact this
  · have := hc (k * 5 + 3) _ (by rw [ll_get hx 3 (by omega)]; rfl); rw [← Nat.add_assoc] at this; exact this
  · have := hc (k * 5 + 4) _ (by rw [ll_get hx 4 (by omega)]; rfl); rw [← Nat.add_assoc] at this; exact this

def LtsSmall (l : List LL) : Prop := l.length ≤ 1048576 ∧ ∀ x ∈ l, x.r.fibs.length ≤ 1048576
set_option maxHeartbeats 400000 in
theorem eqBlock_same (f c : Int) (w : World) : Calls Try.prog 48 #[.agg #[.int .i64 f, .int .i64 c], .agg #[.int .i64 f, .int .i64 c]] w fun e w' => e = .returned (.bool true) ∧ Fresh w w' := by
  go_enter Try.func48, Try.ntmps48
  go_wp2
  go_ret
  exact ⟨rfl, fnew (fnew (frefl _) _) _⟩

/-- Two variables that were laid one after the other. -/
theorem two_rows (w : World) (xs ys : List Value) (t1 t2 : TypeId) : ∃ W2, W2 = (w.alloc (.cells xs.toArray t1)).alloc (.cells ys.toArray t2) ∧ W2.heap.size = w.heap.size + 1 + 1 ∧ Fresh w W2 ∧ RowAt W2 w.heap.size t1 xs ∧ RowAt W2 (w.heap.size + 1) t2 ys := by
  refine ⟨_, rfl, by simp, fnew (fnew (frefl _) _) _, (RowAt.new w _ xs).alloc _, ?_⟩
  have := RowAt.new (w.alloc (.cells xs.toArray t1)) t2 ys
  simpa using this

def OutLight (w : World) (x : LL) (e : Ending) (w' : World) : Prop := ∃ y : LL, e = .returned (llV y) ∧ y.val = x.val ∧ Own w' w.heap.size 3 y.r.q (y.r.fibs.map iv) ∧ Fresh w w'
abbrev zLt : List Value := [iv 0, iv 0, .slice none 0 0, iv 0, iv 0]
theorem infoLt : (Try.prog.info? 124).map (fun i => (i.zero, i.size, i.bytes)) = some (some (.agg #[iv 0, iv 0, .slice none 0 0, iv 0, iv 0]), zLt.length, 56) := by kernel_rfl

end Go.Proofs.Ytipbbfeimdobeaa

/- Contracts: lists of lights copied and compared. -/
namespace Go.Proofs.Ytipbbfeimdobeaa
open Go.RowKit Go.PlainAid

theorem setL_rowL (f : LL → List Value) (l' : List LL) (a : LL) (m : Nat) (z : List Value) (hf : ∀ x, (f x).length = z.length) : setL (l'.flatMap f ++ zs z (m + 1)) (l'.length * z.length) (f a) = (l' ++ [a]).flatMap f ++ zs z m := by
  have hl : (l'.flatMap f).length = l'.length * z.length := flat_len f z.length hf l'
  rw [zs_succ, ← hl, setL_mid (f a) _ z _ (by rw [hf])]
  simp

end Go.Proofs.Ytipbbfeimdobeaa

/- Contracts: plans: sizes, copies, comparisons; plans as one value. -/
namespace Go.Proofs.Ytipbbfeimdobeaa
open Go.RowKit Go.PlainAid

/-- A plan as such. -/
structure PlanV where
  net : Net
  lights : List LtV
def PlRaw (w : World) (v : Value) (P : PlanV) : Prop := ∃ q m c p k d r e l, v = .agg #[.slice q m c, .slice p k d, .slice r l.length e] ∧ NetRaw w (.agg #[.slice q m c, .slice p k d]) P.net ∧ Lts w r l ∧ l.length ≤ 9223372036854775807 ∧ (∀ x ∈ l, x.r.fibs.length ≤ 9223372036854775807) ∧ P.lights = l.map LL.val ∧ l.length ≤ e ∧ e ≤ 9223372036854775807
def LtSm (L : List LtV) : Prop := L.length ≤ 1048576 ∧ ∀ x ∈ L, x.2.1.2.length ≤ 1048576
def PlSmall (P : PlanV) : Prop := NetSmall P.net ∧ LtSm P.lights
def PlIn (w : World) (v : Value) (P : PlanV) : Prop := ∃ q m c p k d r e l, v = .agg #[.slice q m c, .slice p k d, .slice r l.length e] ∧ NetIn w (.agg #[.slice q m c, .slice p k d]) P.net ∧ Lts w r l ∧ LtsSmall l ∧ P.lights = l.map LL.val ∧ l.length ≤ e ∧ e ≤ 9223372036854775807
theorem PlRaw.keep {w w' : World} {v : Value} {P : PlanV} (h : PlRaw w v P) (hb : Fresh w w') : PlRaw w' v P := by
  obtain ⟨q, m, c, p, k, d, r, e, l, h1, h2, h3, h4⟩ := h
  exact ⟨q, m, c, p, k, d, r, e, l, h1, h2.keep hb, h3.keep hb, h4⟩
theorem PlIn.keep {w w' : World} {v : Value} {P : PlanV} (h : PlIn w v P) (hb : Fresh w w') : PlIn w' v P := by
  obtain ⟨q, m, c, p, k, d, r, e, l, h1, h2, h3, h4⟩ := h
  exact ⟨q, m, c, p, k, d, r, e, l, h1, h2.keep hb, h3.keep hb, h4⟩
theorem PlRaw.shape {w : World} {v : Value} {P : PlanV} (h : PlRaw w v P) : ∃ q m c p k d r i e, v = .agg #[.slice q m c, .slice p k d, .slice r i e] := by
  obtain ⟨q, m, c, p, k, d, r, e, l, h1, _⟩ := h
  exact ⟨_, _, _, _, _, _, _, _, _, h1⟩
theorem PlIn.shape {w : World} {v : Value} {P : PlanV} (h : PlIn w v P) : ∃ q m c p k d r i e, v = .agg #[.slice q m c, .slice p k d, .slice r i e] := by
  obtain ⟨q, m, c, p, k, d, r, e, l, h1, _⟩ := h
  exact ⟨_, _, _, _, _, _, _, _, _, h1⟩
theorem ltsm_of {l : List LL} (h : LtsSmall l) : LtSm (l.map LL.val) := by
  refine ⟨by simpa using h.1, fun x hx => ?_⟩
  obtain ⟨y, hy, rfl⟩ := List.mem_map.1 hx
  exact h.2 y hy
theorem ltsm_to {l : List LL} (h : LtSm (l.map LL.val)) : LtsSmall l := ⟨by simpa using h.1, fun x hx => h.2 x.val (List.mem_map_of_mem hx)⟩
theorem PlRaw.small {w : World} {v : Value} {P : PlanV} (h : PlRaw w v P) (hs : PlSmall P) : PlIn w v P := by
  obtain ⟨q, m, c, p, k, d, r, e, l, h1, h2, h3, _, _, h4, h5⟩ := h
  exact ⟨q, m, c, p, k, d, r, e, l, h1, h2.small hs.1, h3, ltsm_to (by rw [← h4]; exact hs.2), h4, h5⟩
theorem PlIn.isSmall {w : World} {v : Value} {P : PlanV} (h : PlIn w v P) : PlSmall P := by
  obtain ⟨q, m, c, p, k, d, r, e, l, h1, h2, h3, h4, h5, _⟩ := h
  exact ⟨h2.isSmall, by rw [h5]; exact ltsm_of h4⟩

theorem NetOwn.setOther {w : World} {base : Nat} {v : Value} {n : Net} (h : NetOwn w base v n) {b o : Nat} (hb : b < base) (u : Value) : NetOwn (w.setCell ⟨b, o, none⟩ u) base v n := by
  obtain ⟨g1, g2, h1, h2, h3, h4, h5⟩ := h
  exact ⟨g1, g2, h1, h2, h3, h4.setOther (by omega) u, h5.setOther (by omega) u⟩
end Go.Proofs.Ytipbbfeimdobeaa

/- Contracts: lights: valid ones, colliding ones, both sides. -/
namespace Go.Proofs.Ytipbbfeimdobeaa
open Go.RowKit Go.PlainAid

def ltB (n : Net) (x : LtV) : Bool := inB x.1 1 999 && isVis n x.2.1.1 x.2.1.2 && goodB x.2.2.1 x.2.2.2
def meetB (x y : Int × Int) : Bool := !(bits BinOp.and IntKind.i64 (mkF x.1 x.2) (mkF y.1 y.2) == 0)
def colB (x y : LtV) : Bool := meetB x.2.2 y.2.2 && usesB x.2.1.2 y.2.1.2

theorem any_step {a : List Int} {f : Int → Bool} {k : Nat} {x : Int} (h : ∀ j y, j < k → a[j]? = some y → f y = false) (hx : a[k]? = some x) (hf : f x = false) : ∀ j y, j < k + 1 → a[j]? = some y → f y = false := by
  intro j y hj hy
  rcases Nat.lt_or_ge j k with h' | h'
  · exact h j y h' hy
  · have : j = k := by omega
    subst this; rw [hx] at hy; cases hy; exact hf
theorem any_none {a : List Int} {f : Int → Bool} {k : Nat} (hk : a.length ≤ k) (h : ∀ j y, j < k → a[j]? = some y → f y = false) : a.any f = false := by
  rw [List.any_eq_false]
  intro x hx
  obtain ⟨j, hj, rfl⟩ := List.getElem_of_mem hx
  simp [h j _ (by omega) (List.getElem?_eq_getElem hj)]

set_option maxHeartbeats 1000000 in
theorem l4Uses_any (s : Int) (q q' : Option Addr) (cap cap' : Nat) (l g : List Int) (w : World) (hl : Ints w q l) (hg : Ints w q' g) (hn : l.length ≤ 1048576) (hm : g.length ≤ 1048576) :
    Calls Try.prog 82 #[.agg #[.int .i64 s, .slice q l.length cap], .slice q' g.length cap'] w fun e w' => e = .returned (.bool (usesB l g)) ∧ Fresh w w' := by
  obtain ⟨W1, hW1⟩ : ∃ W1, W1 = w.alloc (.cells #[.int .i64 s, .slice q l.length cap] 55) := ⟨_, rfl⟩
  have hf : Fresh w W1 := by rw [hW1]; exact fnew (frefl _) _
  have c1 : W1.cell? ⟨w.heap.size, 1, none⟩ = some (.slice q l.length cap) := by rw [hW1]; exact (RowAt.new w 55 [.int .i64 s, .slice q l.length cap]).cell (i := 1) rfl
  have HF := Lib.hid hf
  have HL := Lib.hid (hl.keep hf)
  have HG := Lib.hid (hg.keep hf)
  have HW := Lib.hid hW1
  have HC := Lib.hid c1
  clear hf c1 hW1 hl hg
  go_enter Try.func82, Try.ntmps82
  go_wp2
  rw [← HW.out]
  have c1 := HC.out
  clear HW
  go_loop [5] (fun i => ∃ k : Nat, k ≤ l.length ∧ i = .int .i64 k ∧ ∀ j y, j < k → l[j]? = some y → decide (y ∈ g) = false) (fun i => l.length - (intOf i).toNat)
  case atStart => exact ⟨0, Nat.zero_le _, rfl, fun j y hj => by omega⟩
  case round =>
    obtain ⟨k, hk, rfl, hall⟩ := hrel
    have HA := Lib.hid hall
    clear hall
    by_cases hlt : k < l.length
    · have hltz : (k : Int) < (l.length : Int) := by omega
      obtain ⟨b, off, x, rfl, hx, hc⟩ := HL.out.at hlt
      by_cases hmem : x ∈ g
      · have hdm : decide (x ∈ g) = true := decide_eq_true hmem
        have HE : Hid (usesB l g = true) := by show usesB l g = true; exact List.any_eq_true.2 ⟨x, List.mem_of_getElem? hx, hdm⟩
        clear hx hmem
        go_wp2_with (go_at_call 81; refine (l1Has_any _ _ _ _ _ HG.out (by omega)).mono ?_; rintro e w2 ⟨rfl, rfl⟩)
        go_ret
        exact ⟨ret_bool HE.out.symm, HF.out⟩
      · have hdm : decide (x ∈ g) = false := decide_eq_false hmem
        have HN := Lib.hid (any_step (f := fun y => decide (y ∈ g)) HA.out hx hdm)
        clear hx hmem
        go_wp2_with (go_at_call 81; refine (l1Has_any _ _ _ _ _ HG.out (by omega)).mono ?_; rintro e w2 ⟨rfl, rfl⟩)
        go_round
        case rel => exact ⟨k + 1, by omega, by go_num, HN.out⟩
        case measure => simp [intOf]; omega
    · have hkn : k = l.length := by omega
      have hltz : ¬ (k : Int) < (l.length : Int) := by omega
      have HE : Hid (usesB l g = false) := any_none (f := fun y => decide (y ∈ g)) (by omega) HA.out
      go_wp2
      go_ret
      exact ⟨ret_bool HE.out.symm, HF.out⟩

end Go.Proofs.Ytipbbfeimdobeaa

/- Contracts: colliding lights, both sides. -/
namespace Go.Proofs.Ytipbbfeimdobeaa
open Go.RowKit Go.PlainAid

set_option maxHeartbeats 4000000 in
theorem collide_any (x y : LL) (w : World) (hx : goodB x.f x.c = true) (hy : goodB y.f y.c = true) (hI : Ints w x.r.q x.r.fibs) (hJ : Ints w y.r.q y.r.fibs) (hn : x.r.fibs.length ≤ 1048576) (hm : y.r.fibs.length ≤ 1048576) :
    Calls Try.prog 91 #[llV x, llV y] w fun e w' => e = .returned (.bool (colB x.val y.val)) ∧ Fresh w w' := by
  obtain ⟨id, ⟨s, q, cap, l⟩, bf, bc⟩ := x
  obtain ⟨id', ⟨s', q', cap', l'⟩, bf', bc'⟩ := y
  simp only at hx hy hI hJ hn hm ⊢
  obtain ⟨g1, g2, g3⟩ := goodB_iff.1 hx
  obtain ⟨g1', g2', g3'⟩ := goodB_iff.1 hy
  obtain ⟨W2, hW2, hsz2, hf2, r1, r2⟩ := two_rows w [.int .i64 id, .int .i64 s, .slice q l.length cap, .int .i64 bf, .int .i64 bc] [.int .i64 id', .int .i64 s', .slice q' l'.length cap', .int .i64 bf', .int .i64 bc'] 124 124
  have HW2 := Lib.hid hW2
  have HF2 := Lib.hid hf2
  have HI := Lib.hid (hI.keep hf2)
  have HJ := Lib.hid (hJ.keep hf2)
  have a2 := r1.cell (i := 2) rfl
  have a3 := r1.cell (i := 3) rfl
  have a4 := r1.cell (i := 4) rfl
  have b2 := r2.cell (i := 2) rfl
  have b3 := r2.cell (i := 3) rfl
  have b4 := r2.cell (i := 4) rfl
  have HS : Hid (Fresh W2 W2 ∧ W2.cell? ⟨w.heap.size, 2, none⟩ = some (.slice q l.length cap) ∧ W2.cell? ⟨w.heap.size, 3, none⟩ = some (.int .i64 bf) ∧ W2.cell? ⟨w.heap.size, 4, none⟩ = some (.int .i64 bc) ∧ W2.cell? ⟨w.heap.size + 1, 2, none⟩ = some (.slice q' l'.length cap') ∧ W2.cell? ⟨w.heap.size + 1, 3, none⟩ = some (.int .i64 bf') ∧ W2.cell? ⟨w.heap.size + 1, 4, none⟩ = some (.int .i64 bc')) := ⟨frefl _, a2, a3, a4, b2, b3, b4⟩
  clear hW2 hsz2 hf2 r1 r2 hI hJ hx hy a2 a3 a4 b2 b3 b4
  cases hmt : bits BinOp.and IntKind.i64 (mkF bf bc) (mkF bf' bc') == 0
  · have HE : Hid (colB (id, (s, l), (bf, bc)) (id', (s', l'), (bf', bc')) = usesB l l') := by show colB _ _ = _; simp only [colB, meetB, hmt]; rfl
    have hdn : (bits BinOp.and IntKind.i64 (mkF bf bc) (mkF bf' bc') != 0) = true := by rw [bne, hmt]; rfl
    go_enter Try.func91, Try.ntmps91
    go_wp2
    rw [← HW2.out]
    clear HW2
    have HSS := HS.out
    clear HS
    go_region_held3 (fun w' => Fresh W2 w' ∧ w'.cell? ⟨w.heap.size, 2, none⟩ = some (.slice q l.length cap) ∧ w'.cell? ⟨w.heap.size, 3, none⟩ = some (.int .i64 bf) ∧ w'.cell? ⟨w.heap.size, 4, none⟩ = some (.int .i64 bc) ∧ w'.cell? ⟨w.heap.size + 1, 2, none⟩ = some (.slice q' l'.length cap') ∧ w'.cell? ⟨w.heap.size + 1, 3, none⟩ = some (.int .i64 bf') ∧ w'.cell? ⟨w.heap.size + 1, 4, none⟩ = some (.int .i64 bc'))
      (first | assumption | exact keepc6 (by assumption) (by assumption) | exact keepc6 (by assumption) (fdrew (frefl _)) | exact keepc6 (by assumption) (frefl _))
      (first | (go_at_call 98; refine (maskOf_any _ _ _ (by omega) (by omega) (by omega)).mono ?_; rintro e w10 ⟨rfl, hb10⟩) | (go_at_call 89; refine (common_any q q' cap cap' l l' _ (HI.out.keep (And.left (by assumption))) (HJ.out.keep (And.left (by assumption))) (by omega) (by omega)).mono ?_; rintro e w11 ⟨pc, cc, rfl, _, hb11⟩))
    have hfe : Fresh W2 w11 := And.left (by assumption)
    have HFE := Lib.hid (fstep HF2.out hfe)
    clear hfe
    have HCP : Hid (decide (0 < (commonF l l').length) = usesB l l') := by
      show _ = _
      have := common_pos l l'
      rw [← this]; simp only [Int.natCast_pos]
    go_wp2
    go_ret
    exact ⟨ret_bool (by rw [HE.out, ← HCP.out]), HFE.out⟩
  · have HE : Hid (colB (id, (s, l), (bf, bc)) (id', (s', l'), (bf', bc')) = false) := by show colB _ _ = _; simp only [colB, meetB, hmt]; rfl
    have hdn : (bits BinOp.and IntKind.i64 (mkF bf bc) (mkF bf' bc') != 0) = false := by rw [bne, hmt]; rfl
    obtain ⟨_, a2, a3, a4, b2, b3, b4⟩ := HS.out
    have i3 := fun xa : After W2 => akeep a3 xa
    have i4 := fun xa : After W2 => akeep a4 xa
    have j3 := fun xa : After W2 => akeep b3 xa
    have j4 := fun xa : After W2 => akeep b4 xa
    clear a2 a3 a4 b2 b3 b4 HS
    go_enter Try.func91, Try.ntmps91
    go_wp2
    rw [← HW2.out]
    clear HW2
    refine wp_region_after (by kernel_rfl) (by kernel_rfl) ?_
    repeat (go_big_quiet_step ((go_at_call 98; exact after_call (maskOf_any _ _ _ (by omega) (by omega) (by omega)))))
    refine wpQuiet_nil ?_
    rintro _ ⟨xa, rfl⟩
    go_wp2
    go_ret
    exact ⟨ret_bool HE.out.symm, fstep HF2.out xa.h⟩

end Go.Proofs.Ytipbbfeimdobeaa

/- Contracts: valid plans, the reference's side. -/
namespace Go.Proofs.Ytipbbfeimdobeaa
open Go.RowKit Go.PlainAid

theorem ltB_good {n : Net} {x : LtV} (h : ltB n x = true) : goodB x.2.2.1 x.2.2.2 = true := by unfold ltB at h; simp only [Bool.and_eq_true] at h; exact h.2
/-- What is asked of the light at an index. -/
def orderB (L : List LtV) (k : Nat) (x : LtV) : Bool := match L[k - 1]? with | some y => decide (k = 0) || decide (y.1 < x.1) | none => true
def ltAt (n : Net) (L : List LtV) (k : Nat) : Bool := match L[k]? with | some x => ltB n x && orderB L k x && !((L.take k).any fun y => colB y x) | none => true
def planB (P : PlanV) : Bool := netB P.net && decide (P.lights.length ≤ 12) && (List.range P.lights.length).all (ltAt P.net P.lights)
theorem ltAt_of {n : Net} {L : List LtV} {k : Nat} {x : LtV} (hx : L[k]? = some x) : ltAt n L k = (ltB n x && orderB L k x && !((L.take k).any fun y => colB y x)) := by unfold ltAt; rw [hx]
theorem order_first (L : List LtV) (x : LtV) : orderB L 0 x = true := by unfold orderB; split <;> simp
theorem order_next {L : List LtV} {k : Nat} {x y : LtV} (h0 : 0 < k) (hy : L[k - 1]? = some y) : orderB L k x = decide (y.1 < x.1) := by
  unfold orderB; rw [hy]; simp only
  rw [decide_eq_false (by omega), Bool.false_or]
theorem planB_net {P : PlanV} (h : netB P.net = false) : planB P = false := by unfold planB; rw [h]; rfl
theorem planB_long {P : PlanV} (h : ¬ P.lights.length ≤ 12) : planB P = false := by unfold planB; rw [decide_eq_false h]; simp
theorem planB_bad {P : PlanV} {k : Nat} (hk : k < P.lights.length) (h : ltAt P.net P.lights k = false) : planB P = false := by unfold planB; rw [rall_bad hk h, Bool.and_false]
theorem planB_end {P : PlanV} (h1 : netB P.net = true) (h2 : P.lights.length ≤ 12) (h : ∀ k, k < P.lights.length → ltAt P.net P.lights k = true) : planB P = true := by unfold planB; rw [h1, decide_eq_true h2, rall_end h]; rfl
theorem planB_at {P : PlanV} (h : planB P = true) : netB P.net = true ∧ P.lights.length ≤ 12 ∧ ∀ k, k < P.lights.length → ltAt P.net P.lights k = true := by
  unfold planB at h
  simp only [Bool.and_eq_true, decide_eq_true_eq, List.all_eq_true, List.mem_range] at h
  exact ⟨h.1.1, h.1.2, h.2⟩
theorem ltAt_good {n : Net} {L : List LtV} {k : Nat} {x : LtV} (hx : L[k]? = some x) (h : ltAt n L k = true) : ltB n x = true := by
  rw [ltAt_of hx] at h; simp only [Bool.and_eq_true] at h; exact h.1.1
theorem planB_lt {P : PlanV} (h : planB P = true) : ∀ x ∈ P.lights, ltB P.net x = true := by
  intro x hx
  obtain ⟨_, _, h3⟩ := planB_at h
  obtain ⟨k, hk, rfl⟩ := List.getElem_of_mem hx
  exact ltAt_good (List.getElem?_eq_getElem hk) (h3 k hk)
theorem okStepL {f : Nat → Bool} {k : Nat} (h : ∀ j, j < k → f j = true) (hk : f k = true) : ∀ j, j < k + 1 → f j = true := by
  intro j hj
  rcases Nat.lt_or_ge j k with h' | h'
  · exact h j h'
  · have : j = k := by omega
    subst this; exact hk
theorem lval_at {l : List LL} {L : List LtV} (hv : L = l.map LL.val) {k : Nat} {x : LL} (hx : l[k]? = some x) : L[k]? = some x.val := by rw [hv]; simp [hx]
theorem Lts.prev {w : World} {b off : Nat} {l : List LL} (h : Lts w (some ⟨b, off, none⟩) l) {k : Nat} (hk : k < l.length) (h0 : 0 < k) :
    ∃ y, l[k - 1]? = some y ∧ w.cell? ⟨b, off + (k - 1) * 5, none⟩ = some (.int .i64 y.id) := by
  obtain ⟨b', off', y, hp, hy, _, _, hc, _⟩ := h.at (k := k - 1) (by omega)
  cases hp
  exact ⟨y, hy, hc⟩
theorem noneYet {L : List LtV} {x : LtV} {j : Nat} {y : LtV} (h : ∀ i y, i < j → L[i]? = some y → colB y x = false) (hy : L[j]? = some y) (hc : colB y x = false) : ∀ i y, i < j + 1 → L[i]? = some y → colB y x = false := by
  intro i z hi hz
  rcases Nat.lt_or_ge i j with h' | h'
  · exact h i z h' hz
  · have : i = j := by omega
    subst this; rw [hy] at hz; cases hz; exact hc
theorem noneAll {L : List LtV} {x : LtV} {k : Nat} (h : ∀ i y, i < k → L[i]? = some y → colB y x = false) : ((L.take k).any fun y => colB y x) = false := by
  rw [List.any_eq_false]
  intro y hy
  obtain ⟨i, hi, rfl⟩ := List.getElem_of_mem hy
  have hl : (L.take k).length ≤ k := by simp; omega
  have := h i (L.take k)[i] (by omega) (by rw [List.getElem_take]; exact List.getElem?_eq_getElem (by simp at hi; omega))
  rw [List.getElem_take] at this ⊢
  simp [this]
theorem someOne {L : List LtV} {x y : LtV} {k j : Nat} (hj : j < k) (hy : L[j]? = some y) (hc : colB y x = true) : ((L.take k).any fun y => colB y x) = true := by
  rw [List.any_eq_true]
  exact ⟨y, List.mem_of_getElem? (i := j) (by rw [List.getElem?_take_of_lt hj]; exact hy), hc⟩

end Go.Proofs.Ytipbbfeimdobeaa

/- Contracts: valid plans, the program's side. -/
namespace Go.Proofs.Ytipbbfeimdobeaa
open Go.RowKit Go.PlainAid

theorem Lts.take {w : World} {p : Option Addr} {l : List LL} (h : Lts w p l) (k : Nat) : Lts w p (l.take k) := by
  refine ⟨?_, fun x hx => h.2 x (List.mem_of_mem_take hx)⟩
  rcases h.1 with h1 | ⟨b, off, rfl, hc⟩
  · left
    rw [List.flatMap_eq_nil_iff] at h1 ⊢
    exact fun x hx => h1 x (List.mem_of_mem_take hx)
  · right
    refine ⟨b, off, rfl, fun i v hv => hc i v ?_⟩
    have e : l.flatMap llC = (l.take k).flatMap llC ++ (l.drop k).flatMap llC := by rw [← List.flatMap_append, List.take_append_drop]
    rw [e, List.getElem?_append_left]
    · exact hv
    · rcases Nat.lt_or_ge i ((l.take k).flatMap llC).length with h' | h'
      · exact h'
      · rw [List.getElem?_eq_none h'] at hv; cases hv

end Go.Proofs.Ytipbbfeimdobeaa

/- Contracts: valid plans, the program's side. -/
namespace Go.Proofs.Ytipbbfeimdobeaa
open Go.RowKit Go.PlainAid

theorem any_take_val {l : List LL} {L : List LtV} (hv : L = l.map LL.val) (k : Nat) (x : LtV) : ((l.take k).any fun y => colB y.val x) = ((L.take k).any fun y => colB y x) := by
  rw [hv, ← List.map_take, List.any_map]; rfl

end Go.Proofs.Ytipbbfeimdobeaa

/- Plans, lights, routes that came in, as one value. -/
namespace Go.Proofs.Ytipbbfeimdobeaa
open Go.RowKit Go.ChangeShapes Go.WideShapes Go.ChangeAt Go.Joins

instance : Inhabited LL := ⟨⟨0, default, 0, 0⟩⟩
theorem cells_bk : Try.prog.cellsOf 49 = 2 := by kernel_rfl
section
variable {H : Type} {enc : TypeId × Value → H}
set_option maxRecDepth 100000 in
theorem block_of_cells {W : World} {fuel : Nat} {cs : List Value} {x : DataW H × List MemPlace} (h : DataW.trod enc Try.prog W 0 (fun _ => true) true fuel 49 cs = some x) : ∃ f c : Int, cs = [iv f, iv c] := by
  obtain ⟨y0, y1, k, _, hlen, h0, h1⟩ := trod_struct2 Try.underlying49 h
  rw [cells_bk] at hlen
  match cs, hlen with
  | [u0, u1], _ =>
    have h0' : DataW.trod enc Try.prog W 0 (fun _ => true) true k 3 [u0] = some y0 := by
      have := h0; simp only at this; rw [cells_i] at this; exact this
    have h1' : DataW.trod enc Try.prog W 0 (fun _ => true) true k 3 [u1] = some y1 := by
      have := h1; simp only at this; rw [cells_i] at this; exact this
    obtain ⟨f, e0, _, _⟩ := DataW.trod_int Try.underlying3 h0'
    obtain ⟨c, e1, _, _⟩ := DataW.trod_int Try.underlying3 h1'
    cases e0; cases e1
    exact ⟨f, c, rfl⟩
set_option maxRecDepth 100000 in
theorem rt_of_trod {W : World} {r : Reach} {b : Nat} {v : Value} {d : DataW H} {p : List MemPlace} (hok : Value.okWide Try.prog W r b 47 v)
    (h : DataW.Trod enc Try.prog W 0 (fun _ => true) true 47 v d p) : ∃ R, RtRaw W v R := by
  obtain ⟨cs, rfl, _⟩ := okWide_struct Try.underlying47 hok
  obtain ⟨fuel, hfu⟩ := h
  obtain ⟨⟨s, q, cap, l⟩, e, hI, hn⟩ := route_of_cells (x := (d, p)) (by simpa [Value.cells] using hfu)
  refine ⟨_, s, q, cap, l, ?_, hI, hn, rfl⟩
  rw [← Array.toArray_toList (xs := cs), e]
end
end Go.Proofs.Ytipbbfeimdobeaa

/- Slices of structs of two ints: what they read as, appending one; lists of blocks copied and compared, as one value. -/
namespace Go.Proofs.Ytipbbfeimdobeaa
open Go.RowKit

/-- The two cells of a pair. -/
def pc (b : Int × Int) : List Value := [iv b.1, iv b.2]
def pcs (l : List (Int × Int)) : List Value := l.flatMap pc
theorem pcs_nil : pcs [] = [] := rfl
theorem pcs_app (l r : List (Int × Int)) : pcs (l ++ r) = pcs l ++ pcs r := by simp [pcs]
theorem pcs_cons (b : Int × Int) (l : List (Int × Int)) : pcs (b :: l) = iv b.1 :: iv b.2 :: pcs l := rfl
theorem pcs_len (l : List (Int × Int)) : (pcs l).length = l.length * 2 := by
  induction l with
  | nil => rfl
  | cons b l ih => rw [pcs_cons, List.length_cons, List.length_cons, ih, List.length_cons]; omega
theorem pcs_get {l : List (Int × Int)} {k : Nat} {b : Int × Int} (h : l[k]? = some b) : (pcs l)[k * 2]? = some (iv b.1) ∧ (pcs l)[k * 2 + 1]? = some (iv b.2) := by
  induction l generalizing k with
  | nil => simp at h
  | cons c l ih =>
    rw [pcs_cons]
    cases k with
    | zero => simp at h; subst h; exact ⟨rfl, rfl⟩
    | succ k =>
      have h' : l[k]? = some b := by simpa using h
      have e : (k + 1) * 2 = k * 2 + 1 + 1 := by omega
      obtain ⟨i1, i2⟩ := ih h'
      rw [e]
      exact ⟨by rw [List.getElem?_cons_succ, List.getElem?_cons_succ]; exact i1, by rw [List.getElem?_cons_succ, List.getElem?_cons_succ]; exact i2⟩
/-- A slice of pairs. -/
def Prs (w : World) (p : Option Addr) (l : List (Int × Int)) : Prop := Cells w p (pcs l)
theorem Prs.keep {w w' : World} {p : Option Addr} {l : List (Int × Int)} (h : Prs w p l) (hb : Fresh w w') : Prs w' p l := Cells.keep h hb
theorem Prs.at {w : World} {p : Option Addr} {l : List (Int × Int)} (h : Prs w p l) {k : Nat} (hk : k < l.length) :
    ∃ b off x y, p = some ⟨b, off, none⟩ ∧ l[k]? = some (x, y) ∧ w.cell? ⟨b, off + k * 2, none⟩ = some (.int .i64 x) ∧ w.cell? ⟨b, off + k * 2 + 1, none⟩ = some (.int .i64 y) := by
  obtain ⟨b, off, rfl, hc⟩ := Cells.at h (k := 0) (by rw [pcs_len]; omega)
  have hx : l[k]? = some (l[k].1, l[k].2) := by simp [hk]
  obtain ⟨h1, h2⟩ := pcs_get hx
  exact ⟨b, off, l[k].1, l[k].2, rfl, hx, hc _ _ h1, by rw [Nat.add_assoc]; exact hc _ _ h2⟩
theorem Own.prs {w : World} {base : Nat} {t : TypeId} {p : Option Addr} {l : List (Int × Int)} (h : Own w base t p (pcs l)) : Prs w p l := h.cells

/-- One pair appended to a row of the call's own. -/
theorem wpList_app_prs {T E : TypeId} (hu : Try.prog.underlying T = some (.slice E)) (hinfo : (Try.prog.info? E).map (fun i => (i.zero, i.size, i.bytes)) = some (some (.agg #[.int .i64 0, .int .i64 0]), 2, 16))
    {ops : Array Oper} {rest : List Oper} {o : Oper} {a : Act} {Q : Exit → Act → World → Prop} (w0 w1 : World) (v : Value) (l : List (Int × Int)) (x y : Int) (hgd : o.guard = none) (s t : Operand)
    (ho : o.op = .call { callee := .builtin .append, args := #[s, t], argTypes := #[T, T] }) (hs : a.eval s = v) (hown : w1.ownsRow w0.heap.size E 2 v l.length (pcs l))
    (hx : a.eval t = .slice (some ⟨w1.heap.size, 0, none⟩) 1 1) (hn : l.length ≤ 1099511627776) (hf : Fresh w0 w1)
    (h : ∀ v' w', w'.ownsRow w0.heap.size E 2 v' (l ++ [(x, y)]).length (pcs (l ++ [(x, y)])) → Fresh w0 w' → wpList Try.prog ops Q rest (a.put o.dst v') w') :
    wpList Try.prog ops Q (o :: rest) a (w1.alloc (.cells #[.int .i64 x, .int .i64 y] E)) := by
  obtain ⟨i0, hi, hz0, hz1, hz2⟩ := info_parts hinfo
  refine wpList_append_own _ hgd s t T ho w0.heap.size E i0 (.agg #[.int .i64 0, .int .i64 0]) 2 16 hu hi hz0 hz1 hz2 rfl (by decide) v l.length (pcs l) hs (hown.alloc _) ⟨w1.heap.size, 0, none⟩ 1 1 [iv x, iv y] hx rfl (cell_two_new _ _ _ _)
    (by intro u hu; simp at hu; rcases hu with rfl | rfl <;> rfl) (by unfold maxLen; omega) (by omega) (Nat.le_trans hf.size (by simp)) ?_
  intro v' w' hown' hgrow _
  refine h v' w' ?_ (fgrown (fnew hf _) hgrow (own_block hown))
  rw [pcs_app, List.length_append]
  exact hown'

theorem infoBlk : (Try.prog.info? 56).map (fun i => (i.zero, i.size, i.bytes)) = some (some (.agg #[.int .i64 0, .int .i64 0]), 2, 16) := by kernel_rfl
theorem madeCells_two (n : Nat) : madeCells #[iv 0, iv 0] n = (List.replicate n (iv 0)).toArray := by
  apply Array.ext
  · simp [madeCells]
  · intro i h1 h2
    have h : i % 2 = 0 ∨ i % 2 = 1 := by omega
    rcases h with h | h <;> simp [madeCells, h]
theorem mkPrs {T E : TypeId} (hu : Try.prog.underlying T = some (.slice E)) (hinfo : (Try.prog.info? E).map (fun i => (i.zero, i.size, i.bytes)) = some (some (.agg #[.int .i64 0, .int .i64 0]), 2, 16)) (n : Nat) (hn : n * 16 ≤ 281474976710656) (u : World) :
    (Instr.makeSlice T (.int .i64 (n : Int)) (.int .i64 (n : Int))).run Try.prog u = .ok (.slice (some ⟨u.heap.size, 0, none⟩) n n) (u.alloc (.cells ((List.replicate (n * 2) (iv 0)).toArray) E)) := by
  obtain ⟨i0, hi, hz0, hz1, hz2⟩ := info_parts hinfo
  have h := run_make (P := Try.prog) u T E i0 _ hu hi hz0 .i64 .i64 n n (by omega) (Int.le_refl _) (by rw [hz2]; omega) (by omega)
  rw [Int.toNat_natCast, hz1] at h
  rw [← madeCells_two]
  simpa [Value.cells] using h
theorem set_prs (l : List (Int × Int)) (k : Nat) (x y : Int) (hx : l[k]? = some (x, y)) :
    (((pcs (l.take k) ++ List.replicate ((l.length - k) * 2) (iv 0)).set (k * 2) (iv x)).set (k * 2 + 1) (iv y)) = pcs (l.take (k + 1)) ++ List.replicate ((l.length - (k + 1)) * 2) (iv 0) := by
  have hk : k < l.length := by
    rcases Nat.lt_or_ge k l.length with h | h
    · exact h
    · rw [List.getElem?_eq_none h] at hx; cases hx
  have hl : (pcs (l.take k)).length = k * 2 := by rw [pcs_len, List.length_take]; omega
  have e : (l.length - k) * 2 = (l.length - (k + 1)) * 2 + 1 + 1 := by omega
  have e2 : k * 2 + 1 - k * 2 = 0 + 1 := by omega
  rw [e, List.replicate_succ, List.replicate_succ, List.set_append, if_neg (by omega), hl, Nat.sub_self, List.set_cons_zero, List.set_append, if_neg (by omega), hl, e2, List.set_cons_succ, List.set_cons_zero,
    List.take_add_one, hx, pcs_app]
  simp [pcs, pc]
theorem get_prs0 (l : List (Int × Int)) (k : Nat) (hk : k < l.length) :
    (pcs (l.take k) ++ List.replicate ((l.length - k) * 2) (iv 0))[k * 2]? = some (iv 0) ∧ (pcs (l.take k) ++ List.replicate ((l.length - k) * 2) (iv 0))[k * 2 + 1]? = some (iv 0) := by
  have hl : (pcs (l.take k)).length = k * 2 := by rw [pcs_len, List.length_take]; omega
  have e : (l.length - k) * 2 = (l.length - (k + 1)) * 2 + 1 + 1 := by omega
  have e2 : k * 2 + 1 - k * 2 = 0 + 1 := by omega
  rw [e, List.replicate_succ, List.replicate_succ, List.getElem?_append_right (by omega), List.getElem?_append_right (by omega), hl, Nat.sub_self, e2]
  exact ⟨rfl, rfl⟩
theorem prs_end (l : List (Int × Int)) (k : Nat) (hk : l.length ≤ k) : pcs (l.take k) ++ List.replicate ((l.length - k) * 2) (iv 0) = pcs l := by
  rw [List.take_of_length_le hk, Nat.sub_eq_zero_of_le hk, Nat.zero_mul, List.replicate_zero, List.append_nil]

def BkRaw (w : World) (v : Value) (L : List (Int × Int)) : Prop := ∃ p cap, v = .slice p L.length cap ∧ Prs w p L ∧ L.length ≤ 9223372036854775807
def BkSmall (L : List (Int × Int)) : Prop := L.length ≤ 1048576
def BkIn (w : World) (v : Value) (L : List (Int × Int)) : Prop := ∃ p cap, v = .slice p L.length cap ∧ Prs w p L ∧ L.length ≤ 1048576
theorem BkRaw.keep {w w' : World} {v : Value} {L : List (Int × Int)} (h : BkRaw w v L) (hb : Fresh w w') : BkRaw w' v L := by
  obtain ⟨p, cap, h1, h2, r⟩ := h
  exact ⟨p, cap, h1, h2.keep hb, r⟩
theorem BkIn.keep {w w' : World} {v : Value} {L : List (Int × Int)} (h : BkIn w v L) (hb : Fresh w w') : BkIn w' v L := by
  obtain ⟨p, cap, h1, h2, r⟩ := h
  exact ⟨p, cap, h1, h2.keep hb, r⟩
theorem BkRaw.small {w : World} {v : Value} {L : List (Int × Int)} (h : BkRaw w v L) (hs : BkSmall L) : BkIn w v L := by
  obtain ⟨p, cap, h1, h2, _⟩ := h
  exact ⟨p, cap, h1, h2, hs⟩
end Go.Proofs.Ytipbbfeimdobeaa

/- Blocks that came in, as one value. -/
namespace Go.Proofs.Ytipbbfeimdobeaa
open Go.RowKit Go.ChangeShapes Go.WideShapes Go.ChangeAt Go.Joins
theorem cellsB : Try.prog.cellsOf 49 = 2 := by kernel_rfl
end Go.Proofs.Ytipbbfeimdobeaa

