/- Contracts: lights: valid ones, colliding ones, both sides. -/
import Derived.Test.YtjlhjkdmpngkbaaLt
import Derived.Test.YtjlhjkdmpngkbaaCom
import Derived.Test.YtjlhjkdmpngkbaaMkf
import Derived.Test.YtjlhjkdmpngkbaaRoute3
import Derived.Test.YtjlhjkdmpngkbaaKNet
import Derived.Deep.RegionHeld3
namespace Go.Proofs.Ytjlhjkdmpngkbaa
open Go.RowKit Go.PlainAid

def ltB (n : Net) (x : LtV) : Bool := inB x.1 1 999 && isVis n x.2.1.1 x.2.1.2 && goodB x.2.2.1 x.2.2.2
def meetB (x y : Int × Int) : Bool := !(bits BinOp.and IntKind.i64 (mkF x.1 x.2) (mkF y.1 y.2) == 0)
def colB (x y : LtV) : Bool := meetB x.2.2 y.2.2 && usesB x.2.1.2 y.2.1.2

theorem any_step {a : List Int} {f : Int → Bool} {k : Nat} {x : Int} (h : ∀ j y, j < k → a[j]? = some y → f y = false) (hx : a[k]? = some x) (hf : f x = false) : ∀ j y, j < k + 1 → a[j]? = some y → f y = false := by
  intro j y hj hy
  rcases Nat.lt_or_ge j k with h' | h'
  · exact h j y h' hy
  · have : j = k := by omega
    subst this; rw [hx] at hy; cases hy; exact hf
theorem any_none {a : List Int} {f : Int → Bool} {k : Nat} (hk : a.length ≤ k) (h : ∀ j y, j < k → a[j]? = some y → f y = false) : a.any f = false := by
  rw [List.any_eq_false]
  intro x hx
  obtain ⟨j, hj, rfl⟩ := List.getElem_of_mem hx
  simp [h j _ (by omega) (List.getElem?_eq_getElem hj)]

set_option maxHeartbeats 1000000 in
theorem l4Uses_any (s : Int) (q q' : Option Addr) (cap cap' : Nat) (l g : List Int) (w : World) (hl : Ints w q l) (hg : Ints w q' g) (hn : l.length ≤ 1048576) (hm : g.length ≤ 1048576) :
    Calls Try.prog 167 #[.agg #[.int .i64 s, .slice q l.length cap], .slice q' g.length cap'] w fun e w' => e = .returned (.bool (usesB l g)) ∧ Fresh w w' := by
  obtain ⟨W1, hW1⟩ : ∃ W1, W1 = w.alloc (.cells #[.int .i64 s, .slice q l.length cap] 79) := ⟨_, rfl⟩
  have hf : Fresh w W1 := by rw [hW1]; exact fnew (frefl _) _
  have c1 : W1.cell? ⟨w.heap.size, 1, none⟩ = some (.slice q l.length cap) := by rw [hW1]; exact (RowAt.new w 79 [.int .i64 s, .slice q l.length cap]).cell (i := 1) rfl
  have HF := Lib.hid hf
  have HL := Lib.hid (hl.keep hf)
  have HG := Lib.hid (hg.keep hf)
  have HW := Lib.hid hW1
  have HC := Lib.hid c1
  clear hf c1 hW1 hl hg
  go_enter Try.func167, Try.ntmps167
  go_wp2
  rw [← HW.out]
  have c1 := HC.out
  clear HW
  go_loop [5] (fun i => ∃ k : Nat, k ≤ l.length ∧ i = .int .i64 k ∧ ∀ j y, j < k → l[j]? = some y → decide (y ∈ g) = false) (fun i => l.length - (intOf i).toNat)
  case atStart => exact ⟨0, Nat.zero_le _, rfl, fun j y hj => by omega⟩
  case round =>
    obtain ⟨k, hk, rfl, hall⟩ := hrel
    have HA := Lib.hid hall
    clear hall
    by_cases hlt : k < l.length
    · have hltz : (k : Int) < (l.length : Int) := by omega
      obtain ⟨b, off, x, rfl, hx, hc⟩ := HL.out.at hlt
      by_cases hmem : x ∈ g
      · have hdm : decide (x ∈ g) = true := decide_eq_true hmem
        have HE : Hid (usesB l g = true) := by show usesB l g = true; exact List.any_eq_true.2 ⟨x, List.mem_of_getElem? hx, hdm⟩
        clear hx hmem
        go_wp2_with (go_at_call 95; refine (l1Has_any _ _ _ _ _ HG.out (by omega)).mono ?_; rintro e w2 ⟨rfl, rfl⟩)
        go_ret
        exact ⟨ret_bool HE.out.symm, HF.out⟩
      · have hdm : decide (x ∈ g) = false := decide_eq_false hmem
        have HN := Lib.hid (any_step (f := fun y => decide (y ∈ g)) HA.out hx hdm)
        clear hx hmem
        go_wp2_with (go_at_call 95; refine (l1Has_any _ _ _ _ _ HG.out (by omega)).mono ?_; rintro e w2 ⟨rfl, rfl⟩)
        go_round
        case rel => exact ⟨k + 1, by omega, by go_num, HN.out⟩
        case measure => simp [intOf]; omega
    · have hkn : k = l.length := by omega
      have hltz : ¬ (k : Int) < (l.length : Int) := by omega
      have HE : Hid (usesB l g = false) := any_none (f := fun y => decide (y ∈ g)) (by omega) HA.out
      go_wp2
      go_ret
      exact ⟨ret_bool HE.out.symm, HF.out⟩

set_option maxHeartbeats 2000000 in
theorem isLight_any (v : Value) (n : Net) (x : LL) (w : World) (h : NetIn w v n) (hI : Ints w x.r.q x.r.fibs) (hn : x.r.fibs.length ≤ 1048576) :
    Calls Try.prog 101 #[v, llV x] w fun e w' => e = .returned (.bool (ltB n x.val)) ∧ Fresh w w' := by
  have HN := Lib.hid h
  have HI := Lib.hid hI
  obtain ⟨qn, m, c, p, k, d, rfl⟩ := h.shape
  obtain ⟨id, ⟨s, q, cap, l⟩, bf, bc⟩ := x
  simp only at hn ⊢
  obtain ⟨W2, hW2, hsz2, hf2, r1, r2⟩ := two_rows w [.slice qn m c, .slice p k d] [.int .i64 id, .int .i64 s, .slice q l.length cap, .int .i64 bf, .int .i64 bc] 32 142
  have HW2 := Lib.hid hW2
  have HF2 := Lib.hid hf2
  have HR2 := Lib.hid r2
  clear hW2 hsz2 hf2 r1 r2 hI h
  go_enter Try.func101, Try.ntmps101
  go_wp2_with fail
  rw [← HW2.out]
  clear HW2
  refine (visited_any _ n s q cap l _ (HN.out.keep HF2.out) (HI.out.keep HF2.out) hn).mono ?_
  rintro e w1 ⟨p2, cap2, xs, rfl, hb, _⟩
  have k0 := (HR2.out.keep hb).cell (i := 0) rfl
  have k3 := (HR2.out.keep hb).cell (i := 3) rfl
  have k4 := (HR2.out.keep hb).cell (i := 4) rfl
  have HF := Lib.hid (fstep HF2.out hb)
  clear hb
  cases hv : (visR n.nodes.length n.fibers s l).isSome
  · have HE : Hid (ltB n (id, (s, l), (bf, bc)) = false) := by show ltB n _ = false; simp [ltB, isVis, hv]
    go_wp2
    go_ret
    exact ⟨ret_bool HE.out.symm, HF.out⟩
  · cases hid : inB id 1 999
    · have HE : Hid (ltB n (id, (s, l), (bf, bc)) = false) := by show ltB n _ = false; simp [ltB, hid]
      go_wp2_with (go_at_call 91; refine (within_any _ _ _ _).mono ?_; rintro e w' ⟨rfl, rfl⟩)
      go_ret
      exact ⟨ret_bool HE.out.symm, HF.out⟩
    · have HE : Hid (ltB n (id, (s, l), (bf, bc)) = goodB bf bc) := by show ltB n _ = _; simp [ltB, hid, isVis, hv]
      go_wp2_with (first | (go_at_call 91; refine (within_any _ _ _ _).mono ?_; rintro e w' ⟨rfl, rfl⟩) | (go_at_call 120; refine (implIsValidBlock_any _ _ _).mono ?_; rintro e w4 ⟨rfl, hb4⟩))
      go_ret
      exact ⟨ret_bool HE.out.symm, fstep HF.out hb4⟩

set_option maxHeartbeats 2000000 in
theorem l9Light_any (v : Value) (n : Net) (x : LL) (w : World) (h : NetIn w v n) (hnet : netB n = true) (hI : Ints w x.r.q x.r.fibs) (hn : x.r.fibs.length ≤ 1048576) :
    Calls Try.prog 149 #[v, llV x] w fun e w' => e = .returned (.bool (ltB n x.val)) ∧ Fresh w w' := by
  have HN := Lib.hid h
  have HI := Lib.hid hI
  have HNET := Lib.hid hnet
  obtain ⟨qn, m, c, p, k, d, rfl⟩ := h.shape
  obtain ⟨id, ⟨s, q, cap, l⟩, bf, bc⟩ := x
  simp only at hn ⊢
  obtain ⟨W2, hW2, hsz2, hf2, r1, r2⟩ := two_rows w [.slice qn m c, .slice p k d] [.int .i64 id, .int .i64 s, .slice q l.length cap, .int .i64 bf, .int .i64 bc] 32 142
  have HW2 := Lib.hid hW2
  have HF2 := Lib.hid hf2
  have HR2 := Lib.hid r2
  clear hW2 hsz2 hf2 r1 r2 hI h hnet
  cases hid : inB id 1 999
  · have HE : Hid (ltB n (id, (s, l), (bf, bc)) = false) := by show ltB n _ = false; simp [ltB, hid]
    go_enter Try.func149, Try.ntmps149
    go_wp2_with (go_at_call 143; refine (l1In_any _ _ _ _).mono ?_; rintro e w' ⟨rfl, rfl⟩)
    go_ret
    exact ⟨ret_bool HE.out.symm, by rw [HW2.out] at HF2; exact HF2.out⟩
  · go_enter Try.func149, Try.ntmps149
    go_wp2_with (go_at_call 143; refine (l1In_any _ _ _ _).mono ?_; rintro e w' ⟨rfl, rfl⟩)
    rw [← HW2.out]
    clear HW2
    refine (l4Good_any _ n s q cap l _ (HN.out.keep HF2.out) (HI.out.keep HF2.out) hn).mono ?_
    rintro e w1 ⟨rfl, hb⟩
    rw [HNET.out, Bool.true_and]
    have k3 := (HR2.out.keep hb).cell (i := 3) rfl
    have k4 := (HR2.out.keep hb).cell (i := 4) rfl
    have HF := Lib.hid (fstep HF2.out hb)
    clear hb
    cases hv : isVis n s l
    · have HE : Hid (ltB n (id, (s, l), (bf, bc)) = false) := by show ltB n _ = false; simp [ltB, hv]
      go_wp2
      go_ret
      exact ⟨ret_bool HE.out.symm, HF.out⟩
    · have HE : Hid (ltB n (id, (s, l), (bf, bc)) = goodB bf bc) := by show ltB n _ = _; simp [ltB, hid, hv]
      go_wp2_with (go_at_call 161; refine (l8Good_any _ _ _).mono ?_; rintro e w4 ⟨rfl, hb4⟩)
      go_ret
      exact ⟨ret_bool HE.out.symm, fstep HF.out hb4⟩
end Go.Proofs.Ytjlhjkdmpngkbaa
