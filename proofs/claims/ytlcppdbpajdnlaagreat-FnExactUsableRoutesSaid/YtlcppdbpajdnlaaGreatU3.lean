/- Texts of mine laid together (Dem, Route, Route2, Route3, Loc, Req, Req2, Req3, Req4, OpenR, Open2, KReq, Open3, KRt, Mr, Com): contracts of functions and plain laws. -/
import Derived.Test.YtlcppdbpajdnlaaGreatU2
import Derived.Test.YtlcppdbpajdnlaaGreatU1
import Derived.Deep.RegionHeld3
import Derived.StillTailTactics
import Derived.Deep.Strs
import Derived.Test.YtlcppdbpajdnlaaGreatShelf
import Derived.Sort.OwnSortedInts
import Derived.Lib.OwnBridge
/- Contracts: valid demands, on both sides. -/
namespace Go.Proofs.YtlcppdbpajdnlaaGreat
open Go.RowKit Go.PlainAid

/-- The first place at which a test holds, -1 if nowhere. -/
def idxP {α : Type} (l : List α) (f : α → Bool) : Int := match l.findIdx? f with | some k => k | none => -1
theorem idxP_at {α : Type} {l : List α} {f : α → Bool} {k : Nat} {x : α} (h : ∀ j y, j < k → l[j]? = some y → f y = false) (hx : l[k]? = some x) (hf : f x = true) : idxP l f = k := by
  have hlt : k < l.length := by
    rcases Nat.lt_or_ge k l.length with h' | h'
    · exact h'
    · rw [List.getElem?_eq_none h'] at hx; cases hx
  have : l.findIdx? f = some k := by
    rw [List.findIdx?_eq_some_iff_getElem]
    refine ⟨hlt, ?_, ?_⟩
    · rw [List.getElem?_eq_getElem hlt] at hx; simp at hx; rw [hx]; exact hf
    · intro j hj
      have := h j l[j] hj (List.getElem?_eq_getElem (by omega))
      simp [this]
  unfold idxP; rw [this]
theorem idxP_none {α : Type} {l : List α} {f : α → Bool} (h : ∀ j y, j < l.length → l[j]? = some y → f y = false) : idxP l f = -1 := by
  have : l.findIdx? f = none := by
    rw [List.findIdx?_eq_none_iff]
    intro x hx
    obtain ⟨j, hj, rfl⟩ := List.getElem_of_mem hx
    exact h j _ hj (List.getElem?_eq_getElem hj)
  unfold idxP; rw [this]
theorem idxP_any {α : Type} (l : List α) (f : α → Bool) : decide (0 ≤ idxP l f) = l.any f := by
  unfold idxP
  split
  · next k h =>
    rw [List.findIdx?_eq_some_iff_getElem] at h
    obtain ⟨hk, h1, _⟩ := h
    have : l.any f = true := List.any_eq_true.2 ⟨l[k], List.getElem_mem hk, h1⟩
    rw [this]; simp
  · next h =>
    rw [List.findIdx?_eq_none_iff] at h
    have : l.any f = false := by rw [List.any_eq_false]; intro x hx; simp [h x hx]
    rw [this]; rfl
theorem notP {α : Type} {l : List α} {f : α → Bool} {x : α} {k : Nat} (h : ∀ j y, j < k → l[j]? = some y → f y = false) (hx : l[k]? = some x) (hf : f x = false) : ∀ j y, j < k + 1 → l[j]? = some y → f y = false := by
  intro j y hj hy
  rcases Nat.lt_or_ge j k with h' | h'
  · exact h j y h' hy
  · have : j = k := by omega
    subst this; rw [hx] at hy; cases hy; exact hf

/-- A demand: the numbers of two nodes, a rate, a class. -/
def demB (k : Nat) (d : Fib) : Bool := inB d.a 0 ((k : Int) - 1) && inB d.b 0 ((k : Int) - 1) && !(d.a == d.b) && inB d.len 1 1000 && inB d.risk 0 2
def demsB (n : Net) (l : List Fib) : Bool := decide (l.length ≤ 12) && netB n && l.all (demB n.nodes.length)
theorem demsB_bad {n : Net} {l : List Fib} {k : Nat} {d : Fib} (hx : l[k]? = some d) (h : demB n.nodes.length d = false) : demsB n l = false := by
  unfold demsB; rw [all_false hx h, Bool.and_false]
theorem demsB_long {n : Net} {l : List Fib} (h : ¬ l.length ≤ 12) : demsB n l = false := by unfold demsB; rw [decide_eq_false h]; rfl
theorem demsB_end {n : Net} {l : List Fib} (h : l.length ≤ 12) (ha : l.all (demB n.nodes.length) = true) : demsB n l = netB n := by unfold demsB; rw [decide_eq_true h, ha]; simp

set_option maxHeartbeats 4000000 in
theorem l10Demand_any (v : Value) (n : Net) (d : Fib) (w : World) (h : NetIn w v n) : Calls Tryz.prog 41 #[v, fibV d] w fun e w' => e = .returned (.bool (demB n.nodes.length d)) ∧ Fresh w w' := by
  obtain ⟨N, G⟩ := n
  obtain ⟨q, c, p, d', rfl, hN, hF, n1, n2, n3, n4, hsz⟩ := h
  simp only at hN hF n1 n2 n3 hsz ⊢
  clear hsz hN hF
  obtain ⟨a, b, x, y⟩ := d
  cases h1 : inB a 0 ((N.length : Int) - 1)
  · have HE : Hid (demB N.length ⟨a, b, x, y⟩ = false) := by show demB N.length ⟨a, b, x, y⟩ = false; simp [demB, *]
    go_enter Tryz.func41, Tryz.ntmps41
    go_wp2_with (go_at_call 61; refine (l1In_any _ _ _ _).mono ?_; rintro e w' ⟨rfl, rfl⟩)
    go_ret
    exact ⟨ret_bool HE.out.symm, fnew (fnew (frefl _) _) _⟩
  · cases h2 : inB b 0 ((N.length : Int) - 1)
    · have HE : Hid (demB N.length ⟨a, b, x, y⟩ = false) := by show demB N.length ⟨a, b, x, y⟩ = false; simp [demB, *]
      go_enter Tryz.func41, Tryz.ntmps41
      go_wp2_with (go_at_call 61; refine (l1In_any _ _ _ _).mono ?_; rintro e w' ⟨rfl, rfl⟩)
      go_ret
      exact ⟨ret_bool HE.out.symm, fnew (fnew (frefl _) _) _⟩
    · by_cases h3' : a = b
      · subst h3'
        have HE : Hid (demB N.length ⟨a, a, x, y⟩ = false) := by show demB N.length ⟨a, a, x, y⟩ = false; simp [demB, *]
        go_enter Tryz.func41, Tryz.ntmps41
        go_wp2_with (go_at_call 61; refine (l1In_any _ _ _ _).mono ?_; rintro e w' ⟨rfl, rfl⟩)
        go_ret
        exact ⟨ret_bool HE.out.symm, fnew (fnew (frefl _) _) _⟩
      · have h3 : (a == b) = false := by simp [h3']
        cases h4 : inB x 1 1000
        · have HE : Hid (demB N.length ⟨a, b, x, y⟩ = false) := by show demB N.length ⟨a, b, x, y⟩ = false; simp [demB, *]
          go_enter Tryz.func41, Tryz.ntmps41
          go_wp2_with (go_at_call 61; refine (l1In_any _ _ _ _).mono ?_; rintro e w' ⟨rfl, rfl⟩)
          go_ret
          exact ⟨ret_bool HE.out.symm, fnew (fnew (frefl _) _) _⟩
        · cases h5 : inB y 0 2
          · have HE : Hid (demB N.length ⟨a, b, x, y⟩ = false) := by show demB N.length ⟨a, b, x, y⟩ = false; simp [demB, *]
            go_enter Tryz.func41, Tryz.ntmps41
            go_wp2_with (go_at_call 61; refine (l1In_any _ _ _ _).mono ?_; rintro e w' ⟨rfl, rfl⟩)
            go_ret
            exact ⟨ret_bool HE.out.symm, fnew (fnew (frefl _) _) _⟩
          · have HE : Hid (demB N.length ⟨a, b, x, y⟩ = true) := by show demB N.length ⟨a, b, x, y⟩ = true; simp [demB, *]
            go_enter Tryz.func41, Tryz.ntmps41
            go_wp2_with (go_at_call 61; refine (l1In_any _ _ _ _).mono ?_; rintro e w' ⟨rfl, rfl⟩)
            go_ret
            exact ⟨ret_bool HE.out.symm, fnew (fnew (frefl _) _) _⟩

set_option maxHeartbeats 4000000 in
theorem isDemand_any (v : Value) (n : Net) (d : Fib) (w : World) (h : NetIn w v n) : Calls Tryz.prog 89 #[v, fibV d] w fun e w' => e = .returned (.bool (demB n.nodes.length d)) ∧ Fresh w w' := by
  obtain ⟨N, G⟩ := n
  obtain ⟨q, c, p, d', rfl, hN, hF, n1, n2, n3, n4, hsz⟩ := h
  simp only at hN hF n1 n2 n3 hsz ⊢
  clear hsz hN hF
  obtain ⟨a, b, x, y⟩ := d
  cases h1 : inB a 0 ((N.length : Int) - 1)
  · have HE : Hid (demB N.length ⟨a, b, x, y⟩ = false) := by show demB N.length ⟨a, b, x, y⟩ = false; simp [demB, *]
    go_enter Tryz.func89, Tryz.ntmps89
    go_wp2_with (go_at_call 85; refine (within_any _ _ _ _).mono ?_; rintro e w' ⟨rfl, rfl⟩)
    go_ret
    exact ⟨ret_bool HE.out.symm, fnew (fnew (frefl _) _) _⟩
  · cases h2 : inB b 0 ((N.length : Int) - 1)
    · have HE : Hid (demB N.length ⟨a, b, x, y⟩ = false) := by show demB N.length ⟨a, b, x, y⟩ = false; simp [demB, *]
      go_enter Tryz.func89, Tryz.ntmps89
      go_wp2_with (go_at_call 85; refine (within_any _ _ _ _).mono ?_; rintro e w' ⟨rfl, rfl⟩)
      go_ret
      exact ⟨ret_bool HE.out.symm, fnew (fnew (frefl _) _) _⟩
    · by_cases h3' : a = b
      · subst h3'
        have HE : Hid (demB N.length ⟨a, a, x, y⟩ = false) := by show demB N.length ⟨a, a, x, y⟩ = false; simp [demB, *]
        go_enter Tryz.func89, Tryz.ntmps89
        go_wp2_with (go_at_call 85; refine (within_any _ _ _ _).mono ?_; rintro e w' ⟨rfl, rfl⟩)
        go_ret
        exact ⟨ret_bool HE.out.symm, fnew (fnew (frefl _) _) _⟩
      · have h3 : (a == b) = false := by simp [h3']
        cases h4 : inB x 1 1000
        · have HE : Hid (demB N.length ⟨a, b, x, y⟩ = false) := by show demB N.length ⟨a, b, x, y⟩ = false; simp [demB, *]
          go_enter Tryz.func89, Tryz.ntmps89
          go_wp2_with (go_at_call 85; refine (within_any _ _ _ _).mono ?_; rintro e w' ⟨rfl, rfl⟩)
          go_ret
          exact ⟨ret_bool HE.out.symm, fnew (fnew (frefl _) _) _⟩
        · cases h5 : inB y 0 2
          · have HE : Hid (demB N.length ⟨a, b, x, y⟩ = false) := by show demB N.length ⟨a, b, x, y⟩ = false; simp [demB, *]
            go_enter Tryz.func89, Tryz.ntmps89
            go_wp2_with (go_at_call 85; refine (within_any _ _ _ _).mono ?_; rintro e w' ⟨rfl, rfl⟩)
            go_ret
            exact ⟨ret_bool HE.out.symm, fnew (fnew (frefl _) _) _⟩
          · have HE : Hid (demB N.length ⟨a, b, x, y⟩ = true) := by show demB N.length ⟨a, b, x, y⟩ = true; simp [demB, *]
            go_enter Tryz.func89, Tryz.ntmps89
            go_wp2_with (go_at_call 85; refine (within_any _ _ _ _).mono ?_; rintro e w' ⟨rfl, rfl⟩)
            go_ret
            exact ⟨ret_bool HE.out.symm, fnew (fnew (frefl _) _) _⟩

theorem NetIn.in_box {w : World} {v : Value} {n : Net} (h : NetIn w v n) {w1 : World} {t : TypeId} (hf : Fresh (w.alloc (.cells v.cells t)) w1) :
    ∃ a b, v = .agg #[a, b] ∧ w1.cell? ⟨w.heap.size, 0, none⟩ = some a ∧ w1.cell? ⟨w.heap.size, 1, none⟩ = some b := by
  obtain ⟨q, c, p, d, rfl, _⟩ := h
  exact ⟨_, _, rfl, box hf 0 rfl, box hf 1 rfl⟩

set_option maxHeartbeats 2000000 in
set_option maxRecDepth 100000 in
theorem l10Demands_any (v : Value) (n : Net) (p : Option Addr) (cap : Nat) (l : List Fib) (w : World) (h : NetIn w v n) (hl : Fibs w p l) (hn : l.length ≤ 1048576) :
    Calls Tryz.prog 78 #[v, .slice p l.length cap] w fun e w' => e = .returned (.bool (demsB n l)) ∧ Fresh w w' := by
  have HN := Lib.hid h
  obtain ⟨q, c, p', d', hv, _⟩ := h
  subst hv
  go_enter Tryz.func78, Tryz.ntmps78
  go_wp2
  go_loopw [5] (fun i wr => ∃ k : Nat, k ≤ l.length ∧ k ≤ 13 ∧ i = .int .i64 k ∧ (l.take k).all (demB n.nodes.length) = true ∧ Fresh (w.alloc (.cells #[.slice q n.nodes.length c, .slice p' n.fibers.length d'] 37)) wr) (fun i _ => l.length - (intOf i).toNat)
  case atStart => exact ⟨0, Nat.zero_le _, by omega, rfl, by simp, frefl _⟩
  case round =>
    obtain ⟨k, hk, hk13, rfl, hall, hf⟩ := hrel
    have HA := Lib.hid hall
    clear hall
    have hb0 := box hf 0 (v := .slice q n.nodes.length c) rfl
    have hb1 := box hf 1 (v := .slice p' n.fibers.length d') rfl
    have hW : Fresh w wr := fstep (fnew (frefl _) _) hf
    have HF := Lib.hid hf
    have HW := Lib.hid hW
    clear hf
    by_cases hlt : k < l.length
    · have hltz : decide ((k : Int) < (l.length : Int)) = true := decide_eq_true (by omega)
      by_cases h12 : k ≤ 12
      · have hd12 : decide ((k : Int) ≤ 12) = true := decide_eq_true (by omega)
        have hltz2 : (k : Int) < (l.length : Int) := by omega
        obtain ⟨b, off, x, y, z, u, rfl, hx, hc0, hc1, hc2, hc3⟩ := (hl.keep hW).at hlt
        clear hW
        cases hd : demB n.nodes.length ⟨x, y, z, u⟩
        · have HE := Lib.hid (demsB_bad (n := n) hx hd)
          clear hx
          go_wp2
          go_still_tail 5, (by kernel_rfl)
          change wpList _ _ _ _ _ wr.drew
          have HF2 : Hid (Fresh w wr.drew) := fdrew HW.out
          have HF2b := Lib.hid (fdrew HF.out)
          generalize wr.drew = w2 at HF2 HF2b
          go_wp2_with fail
          refine (l10Demand_any _ n ⟨x, y, z, u⟩ _ (HN.out.keep HF2.out)).mono ?_
          rintro e w3 ⟨rfl, hb⟩
          have HF3 := Lib.hid (fstep HF2.out hb)
          have HF4 := Lib.hid (fstep HF2b.out hb)
          clear hb
          go_wp2
          go_ret
          exact ⟨ret_bool HE.out.symm, HF3.out⟩
        · have HE := Lib.hid (all_step HA.out hx hd)
          clear hx
          go_wp2
          go_still_tail 5, (by kernel_rfl)
          change wpList _ _ _ _ _ wr.drew
          have HF2 : Hid (Fresh w wr.drew) := fdrew HW.out
          have HF2b := Lib.hid (fdrew HF.out)
          generalize wr.drew = w2 at HF2 HF2b
          go_wp2_with fail
          refine (l10Demand_any _ n ⟨x, y, z, u⟩ _ (HN.out.keep HF2.out)).mono ?_
          rintro e w3 ⟨rfl, hb⟩
          have HF3 := Lib.hid (fstep HF2.out hb)
          have HF4 := Lib.hid (fstep HF2b.out hb)
          clear hb
          go_wp2
          go_roundw
          case rel => exact ⟨k + 1, by omega, by omega, by go_num, HE.out, HF4.out⟩
          case measure => simp [intOf]; omega
      · have hd12 : decide ((k : Int) ≤ 12) = false := decide_eq_false (by omega)
        have HE := Lib.hid (demsB_long (n := n) (l := l) (by omega))
        have hd : decide ((l.length : Int) ≤ 12) = false := decide_eq_false (by omega)
        clear hW
        go_wp2
        go_ret
        exact ⟨ret_bool HE.out.symm, HW.out⟩
    · have hkn : k = l.length := by omega
      have hltz : decide ((k : Int) < (l.length : Int)) = false := decide_eq_false (by omega)
      by_cases h12 : l.length ≤ 12
      · have HE := Lib.hid (demsB_end (n := n) h12 (by have := HA.out; rw [hkn, List.take_length] at this; exact this))
        have hd : decide ((l.length : Int) ≤ 12) = true := decide_eq_true (by omega)
        clear hW
        go_wp2_with fail
        refine (l2Good_any _ n _ (HN.out.keep HW.out)).mono ?_
        rintro e w1 ⟨rfl, hb⟩
        have HB := Lib.hid hb
        clear hb
        go_wp2
        go_ret
        exact ⟨ret_bool HE.out.symm, fstep HW.out HB.out⟩
      · have HE := Lib.hid (demsB_long (n := n) (l := l) h12)
        have hd : decide ((l.length : Int) ≤ 12) = false := decide_eq_false (by omega)
        clear hW
        go_wp2
        go_ret
        exact ⟨ret_bool HE.out.symm, HW.out⟩

set_option maxHeartbeats 1000000 in
theorem demClo_any (v : Value) (n : Net) (d : Fib) (h : Nat) (w : World) (hN : NetIn w v n) (ha : ∃ a b, v = .agg #[a, b] ∧ w.cell? ⟨h, 0, none⟩ = some a ∧ w.cell? ⟨h, 1, none⟩ = some b) :
    Calls Tryz.prog 88 #[fibV d, .pointer (some ⟨h, 0, none⟩)] w fun e w' => e = .returned (.bool (!demB n.nodes.length d)) ∧ Fresh w w' := by
  obtain ⟨a, b, rfl, hc0, hc1⟩ := ha
  have HN := Lib.hid hN
  clear hN
  obtain ⟨x, y, z, u⟩ := d
  have hf : Fresh w (w.alloc (.cells #[iv x, iv y, iv z, iv u] 41)) := fnew (frefl _) _
  have hd0 := fkeep hf hc0
  have hd1 := fkeep hf hc1
  have HF := Lib.hid hf
  clear hf
  go_enter Tryz.func88, Tryz.ntmps88
  go_wp2_with fail
  refine (isDemand_any _ n ⟨x, y, z, u⟩ _ (HN.out.keep HF.out)).mono ?_
  rintro e w1 ⟨rfl, hb⟩
  have HB := Lib.hid (fstep HF.out hb)
  clear hb
  go_wp2
  go_ret
  exact ⟨rfl, HB.out⟩

set_option maxHeartbeats 2000000 in
theorem demIndex_any (p : Option Addr) (cap : Nat) (l : List Fib) (g : Fib → Bool) (cp : Array Value) (w : World) (hl : Fibs w p l) (hn : l.length ≤ 1048576)
    (hcl : ∀ (d : Fib) (w' : World), Fresh w w' → Calls Tryz.prog 88 (#[fibV d] ++ cp) w' fun e w'' => e = .returned (.bool (g d)) ∧ Fresh w' w'') :
    Calls Tryz.prog 104 #[.slice p l.length cap, .func (.func 88) #[] cp] w fun e w' => e = .returned (.int .i64 (idxP l g)) ∧ Fresh w w' := by
  have HC := Lib.hid hcl
  clear hcl
  go_enter Tryz.func104, Tryz.ntmps104
  go_wp2
  go_loopw [5, 8] (fun _ i wr => ∃ k : Nat, k ≤ l.length ∧ i = .int .i64 k ∧ (∀ j y, j < k → l[j]? = some y → g y = false) ∧ Fresh w wr) (fun _ i _ => l.length - (intOf i).toNat)
  case atStart => exact ⟨0, Nat.zero_le _, rfl, fun j y hj => by omega, frefl _⟩
  case round =>
    obtain ⟨k, hk, rfl, hall, hf⟩ := hrel
    have HA := Lib.hid hall
    clear hall
    have HF := Lib.hid hf
    by_cases hlt : k < l.length
    · obtain ⟨b, off, x, y, z, u, rfl, hx, hc0, hc1, hc2, hc3⟩ := (hl.keep hf).at hlt
      have hltz : (k : Int) < (l.length : Int) := by omega
      clear hf
      cases hg : g ⟨x, y, z, u⟩
      · have HE := Lib.hid (notP HA.out hx hg)
        clear hx
        go_wp2_with fail
        refine (HC.out ⟨x, y, z, u⟩ _ HF.out).mono ?_
        rintro e w1 ⟨rfl, hb⟩
        have HB := Lib.hid (fstep HF.out hb)
        clear hb
        go_wp2
        go_roundw
        case rel => exact ⟨k + 1, by omega, by go_num, HE.out, HB.out⟩
        case measure => simp [intOf]; omega
      · have HE := Lib.hid (idxP_at HA.out hx hg)
        clear hx
        go_wp2_with fail
        refine (HC.out ⟨x, y, z, u⟩ _ HF.out).mono ?_
        rintro e w1 ⟨rfl, hb⟩
        have HB := Lib.hid (fstep HF.out hb)
        clear hb
        go_wp2
        go_ret
        exact ⟨ret_int HE.out.symm, HB.out⟩
    · have hkn : k = l.length := by omega
      have hltz : ¬ (k : Int) < (l.length : Int) := by omega
      have HE := Lib.hid (idxP_none (l := l) (f := g) (by rw [← hkn]; exact HA.out))
      clear hf
      go_wp2
      go_ret
      exact ⟨ret_int HE.out.symm, HF.out⟩

set_option maxHeartbeats 1000000 in
theorem demContains_any (p : Option Addr) (cap : Nat) (l : List Fib) (g : Fib → Bool) (cp : Array Value) (w : World) (hl : Fibs w p l) (hn : l.length ≤ 1048576)
    (hcl : ∀ (d : Fib) (w' : World), Fresh w w' → Calls Tryz.prog 88 (#[fibV d] ++ cp) w' fun e w'' => e = .returned (.bool (g d)) ∧ Fresh w' w'') :
    Calls Tryz.prog 87 #[.slice p l.length cap, .func (.func 88) #[] cp] w fun e w' => e = .returned (.bool (l.any g)) ∧ Fresh w w' := by
  have HI := Lib.hid (demIndex_any p cap l g cp w hl hn hcl)
  have HE := Lib.hid (idxP_any l g)
  clear hcl hl
  go_enter Tryz.func87, Tryz.ntmps87
  go_wp2_with fail
  refine HI.out.mono ?_
  rintro e w1 ⟨rfl, hb⟩
  have HB := Lib.hid hb
  clear hb
  go_wp2
  go_ret
  exact ⟨ret_bool HE.out, HB.out⟩
theorem any_not {α : Type} (l : List α) (f : α → Bool) : (!l.any fun x => !f x) = l.all f := by
  induction l with
  | nil => rfl
  | cons a l ih => simp [List.any_cons, List.all_cons, ← ih]

set_option maxHeartbeats 2000000 in
theorem implIsValidDemands_any (v : Value) (n : Net) (p : Option Addr) (cap : Nat) (l : List Fib) (w : World) (h : NetIn w v n) (hl : Fibs w p l) (hn : l.length ≤ 1048576) :
    Calls Tryz.prog 71 #[v, .slice p l.length cap] w fun e w' => e = .returned (.bool (demsB n l)) ∧ Fresh w w' := by
  have HN := Lib.hid h
  have HL := Lib.hid hl
  clear hl
  have hmf : ∀ (fn : Fn) (first cap : Array Value) (w : World), (Instr.makeFunc fn first cap).run Tryz.prog w = .ok (.func fn first cap) w := fun _ _ _ _ => rfl
  obtain ⟨q, c, p', d', hv, _⟩ := h
  subst hv
  have HW := Lib.hid (fnew (frefl w) (.cells #[.slice q n.nodes.length c, .slice p' n.fibers.length d'] 37))
  go_enter Tryz.func71, Tryz.ntmps71
  go_wp2_with fail
  refine (implIsValidNetwork_any _ n _ (HN.out.keep HW.out)).mono ?_
  rintro e w1 ⟨rfl, hb⟩
  have hb0 := box hb 0 (v := .slice q n.nodes.length c) rfl
  have hb1 := box hb 1 (v := .slice p' n.fibers.length d') rfl
  have HB := Lib.hid (fstep HW.out hb)
  clear hb
  cases hnet : netB n
  · have HE : Hid (demsB n l = false) := by show demsB n l = false; simp [demsB, hnet]
    go_wp2
    go_ret
    exact ⟨ret_bool HE.out.symm, HB.out⟩
  · by_cases h12 : l.length ≤ 12
    · have hd : decide ((l.length : Int) ≤ 12) = true := decide_eq_true (by omega)
      have HE : Hid ((!l.any fun x => !demB n.nodes.length x) = demsB n l) := by
        show (!l.any fun x => !demB n.nodes.length x) = demsB n l
        rw [any_not]; unfold demsB; rw [decide_eq_true h12, hnet]; rfl
      go_wp2_with fail
      refine (demContains_any p cap l (fun x => !demB n.nodes.length x) #[.pointer (some ⟨w.heap.size, 0, none⟩)] _ (HL.out.keep HB.out) hn
        (fun d w' hf => demClo_any _ n d w.heap.size w' ((HN.out.keep HB.out).keep hf) ⟨_, _, rfl, fkeep hf hb0, fkeep hf hb1⟩)).mono ?_
      rintro e w2 ⟨rfl, hb2⟩
      have HB2 := Lib.hid (fstep HB.out hb2)
      clear hb2
      go_wp2
      go_ret
      exact ⟨ret_bool HE.out, HB2.out⟩
    · have hd : decide ((l.length : Int) ≤ 12) = false := decide_eq_false (by omega)
      have HE := Lib.hid (demsB_long (n := n) (l := l) h12)
      go_wp2
      go_ret
      exact ⟨ret_bool HE.out.symm, HB.out⟩

end Go.Proofs.YtlcppdbpajdnlaaGreat

/- Contracts: routes walked, both sides. -/
namespace Go.Proofs.YtlcppdbpajdnlaaGreat
open Go.RowKit Go.PlainAid

/-- The other end of a fiber, -1 if the node is none of its ends. -/
def other (f : Fib) (n : Int) : Int := if n = f.a then f.b else if n = f.b then f.a else -1
def lastI (l : List Int) : Int := (l.getLast?).getD 0
/-- One fiber more. -/
def stepR (F : List Fib) (out : List Int) (i : Int) : Option (List Int) :=
  if inB i 0 ((F.length : Int) - 1) then
    match F[i.toNat]? with
    | some f => if other f (lastI out) < 0 ∨ other f (lastI out) ∈ out then none else some (out ++ [other f (lastI out)])
    | none => none
  else none
def walkR (F : List Fib) (s : Int) (l : List Int) : Option (List Int) := l.foldl (fun acc i => acc.bind fun out => stepR F out i) (some [s])
theorem walk_none (F : List Fib) (l : List Int) : l.foldl (fun acc i => acc.bind fun out => stepR F out i) none = none := by
  induction l with
  | nil => rfl
  | cons a l ih => exact ih
theorem walk_step {F : List Fib} {s : Int} {l : List Int} {k : Nat} {out : List Int} {i : Int} (h : walkR F s (l.take k) = some out) (hi : l[k]? = some i) : walkR F s (l.take (k + 1)) = stepR F out i := by
  unfold walkR at *
  rw [List.take_add_one, hi, List.foldl_append, h]; rfl
theorem walk_dead {F : List Fib} {s : Int} {l : List Int} {k : Nat} (h : walkR F s (l.take k) = none) : walkR F s l = none := by
  unfold walkR at *
  rw [← List.take_append_drop k l, List.foldl_append, h]; exact walk_none F _
theorem stepR_out {F : List Fib} {out : List Int} {i : Int} (h : inB i 0 ((F.length : Int) - 1) = false) : stepR F out i = none := by unfold stepR; simp [h]
theorem stepR_bad {F : List Fib} {out : List Int} {i : Int} {f : Fib} (h : inB i 0 ((F.length : Int) - 1) = true) (hf : F[i.toNat]? = some f) (hb : other f (lastI out) < 0 ∨ other f (lastI out) ∈ out) : stepR F out i = none := by
  unfold stepR; simp only [h, if_true, hf]; rw [if_pos hb]
theorem stepR_good {F : List Fib} {out : List Int} {i : Int} {f : Fib} (h : inB i 0 ((F.length : Int) - 1) = true) (hf : F[i.toNat]? = some f) (hb : ¬ (other f (lastI out) < 0 ∨ other f (lastI out) ∈ out)) : stepR F out i = some (out ++ [other f (lastI out)]) := by
  unfold stepR; simp only [h, if_true, hf]; rw [if_neg hb]
theorem lastI_app (l : List Int) (x : Int) : lastI (l ++ [x]) = x := by unfold lastI; simp
theorem walk_len {F : List Fib} {s : Int} {l : List Int} : ∀ {k : Nat} {out : List Int}, k ≤ l.length → walkR F s (l.take k) = some out → out.length = k + 1 := by
  intro k
  induction k with
  | zero => intro out _ h; simp [walkR] at h; subst h; rfl
  | succ k ih =>
    intro out hk h
    cases ho : walkR F s (l.take k) with
    | none =>
      have : walkR F s (l.take (k + 1)) = none := by
        have := walk_dead (F := F) (s := s) (l := l.take (k + 1)) (k := k) (by rw [List.take_take, Nat.min_eq_left (by omega)]; exact ho)
        exact this
      rw [this] at h; cases h
    | some o =>
      have hlo := ih (by omega) ho
      have hx : l[k]? = some l[k] := List.getElem?_eq_getElem (by omega)
      rw [walk_step ho hx] at h
      unfold stepR at h
      split at h
      · split at h
        · split at h
          · cases h
          · cases h; simp [hlo]
        · cases h
      · cases h
/-- The nodes of a route; none if it is not valid in a valid network. -/
def visR (N : Nat) (F : List Fib) (s : Int) (l : List Int) : Option (List Int) := if inB s 0 ((N : Int) - 1) = true ∧ l.length ≠ 0 then walkR F s l else none
theorem visR_start {N : Nat} {F : List Fib} {s : Int} {l : List Int} (h : inB s 0 ((N : Int) - 1) = false) : visR N F s l = none := by unfold visR; rw [if_neg]; simp [h]
theorem visR_empty {N : Nat} {F : List Fib} {s : Int} {l : List Int} (h : l.length = 0) : visR N F s l = none := by unfold visR; rw [if_neg]; simp [h]
theorem visR_go {N : Nat} {F : List Fib} {s : Int} {l : List Int} (h : inB s 0 ((N : Int) - 1) = true) (h2 : l.length ≠ 0) : visR N F s l = walkR F s l := by unfold visR; rw [if_pos ⟨h, h2⟩]
/-- The call hands back a list of ints (of its own where there is one) and whether there is one. -/
def OutWalk (w : World) (R : Option (List Int)) (e : Ending) (w' : World) : Prop := ∃ p cap, ∃ xs : List Int, e = .returned (.tuple #[.slice p xs.length cap, .bool R.isSome]) ∧ Fresh w w' ∧ ∀ out, R = some out → xs = out ∧ Own w' w.heap.size 3 p (out.map iv)

set_option maxHeartbeats 1000000 in
theorem otherEnd_any (x y z u n : Int) (w : World) : Calls Tryz.prog 109 #[.agg #[.int .i64 x, .int .i64 y, .int .i64 z, .int .i64 u], .int .i64 n] w fun e w' => e = .returned (.int .i64 (other ⟨x, y, z, u⟩ n)) ∧ Fresh w w' := by
  by_cases h1 : n = x
  · have HE : Hid (other ⟨x, y, z, u⟩ n = y) := by show other ⟨x, y, z, u⟩ n = y; simp [other, h1]
    subst h1
    go_enter Tryz.func109, Tryz.ntmps109
    go_wp2
    go_ret
    exact ⟨ret_int HE.out.symm, fnew (frefl _) _⟩
  · have k1 : (n == x) = false := by simp [h1]
    by_cases h2 : n = y
    · have HE : Hid (other ⟨x, y, z, u⟩ n = x) := by show other ⟨x, y, z, u⟩ n = x; simp [other, h2]
      subst h2
      go_enter Tryz.func109, Tryz.ntmps109
      go_wp2
      go_ret
      exact ⟨ret_int HE.out.symm, fnew (frefl _) _⟩
    · have k2 : (n == y) = false := by simp [h2]
      have HE : Hid (other ⟨x, y, z, u⟩ n = -1) := by show other ⟨x, y, z, u⟩ n = -1; simp [other, h1, h2]
      go_enter Tryz.func109, Tryz.ntmps109
      go_wp2
      go_ret
      exact ⟨ret_int HE.out.symm, fnew (frefl _) _⟩

set_option maxHeartbeats 1000000 in
theorem l2Other_any (q p : Option Addr) (N c d : Nat) (F : List Fib) (i : Nat) (x y z u n : Int) (w : World) (hF : Fibs w p F) (hi : F[i]? = some ⟨x, y, z, u⟩) (_hd : F.length ≤ 1048576) :
    Calls Tryz.prog 98 #[.agg #[.slice q N c, .slice p F.length d], .int .i64 i, .int .i64 n] w fun e w' => e = .returned (.int .i64 (other ⟨x, y, z, u⟩ n)) ∧ Fresh w w' := by
  have hlt : i < F.length := by
    rcases Nat.lt_or_ge i F.length with h' | h'
    · exact h'
    · rw [List.getElem?_eq_none h'] at hi; cases hi
  have hltz : (i : Int) < (F.length : Int) := by omega
  have hbx := fnew (frefl w) (.cells #[.slice q N c, .slice p F.length d] 37)
  obtain ⟨b, off, x', y', z', u', rfl, hx, hc0, hc1, hc2, hc3⟩ := hF.at hlt
  rw [hi] at hx
  simp only [Option.some.injEq, Fib.mk.injEq] at hx
  obtain ⟨rfl, rfl, rfl, rfl⟩ := hx
  have e0 := fkeep hbx hc0
  have e1 := fkeep hbx hc1
  have e2 := fkeep hbx hc2
  have e3 := fkeep hbx hc3
  clear hi hF hbx
  by_cases h1 : n = x
  · have HE : Hid (other ⟨x, y, z, u⟩ n = y) := by show other ⟨x, y, z, u⟩ n = y; simp [other, h1]
    subst h1
    go_enter Tryz.func98, Tryz.ntmps98
    go_wp2
    go_ret
    exact ⟨ret_int HE.out.symm, fnew (fnew (frefl _) _) _⟩
  · have k1 : (n == x) = false := by simp [h1]
    by_cases h2 : n = y
    · have HE : Hid (other ⟨x, y, z, u⟩ n = x) := by show other ⟨x, y, z, u⟩ n = x; simp [other, h2]
      subst h2
      go_enter Tryz.func98, Tryz.ntmps98
      go_wp2
      go_ret
      exact ⟨ret_int HE.out.symm, fnew (fnew (frefl _) _) _⟩
    · have k2 : (n == y) = false := by simp [h2]
      have HE : Hid (other ⟨x, y, z, u⟩ n = -1) := by show other ⟨x, y, z, u⟩ n = -1; simp [other, h1, h2]
      go_enter Tryz.func98, Tryz.ntmps98
      go_wp2
      go_ret
      exact ⟨ret_int HE.out.symm, fnew (fnew (frefl _) _) _⟩
end Go.Proofs.YtlcppdbpajdnlaaGreat

/- Contracts: the walks along a route, both sides. -/
namespace Go.Proofs.YtlcppdbpajdnlaaGreat
open Go.RowKit Go.PlainAid

/-- Two variables that were boxed one after the other. -/
theorem two_boxes {w w1 : World} {a b c d : Value} {t1 t2 : TypeId} (h : Fresh ((w.alloc (.cells #[a, b] t1)).alloc (.cells #[c, d] t2)) w1) :
    w1.cell? ⟨w.heap.size, 0, none⟩ = some a ∧ w1.cell? ⟨w.heap.size, 1, none⟩ = some b ∧ w1.cell? ⟨w.heap.size + 1, 0, none⟩ = some c ∧ w1.cell? ⟨w.heap.size + 1, 1, none⟩ = some d := by
  have r1 := ((RowAt.new w t1 [a, b]).alloc (.cells #[c, d] t2)).keep h
  have r2 := (RowAt.new (w.alloc (.cells #[a, b] t1)) t2 [c, d]).keep h
  have e : (w.alloc (.cells #[a, b] t1)).heap.size = w.heap.size + 1 := by simp
  rw [e] at r2
  exact ⟨r1.cell (i := 0) rfl, r1.cell (i := 1) rfl, r2.cell (i := 0) rfl, r2.cell (i := 1) rfl⟩
theorem keep1 {w w' w'' : World} {b o : Nat} {v : Value} (h : Fresh w w' ∧ w'.cell? ⟨b, o, none⟩ = some v) (hb : Fresh w' w'') : Fresh w w'' ∧ w''.cell? ⟨b, o, none⟩ = some v := ⟨fstep h.1 hb, fkeep hb h.2⟩
theorem own1 (w0 w : World) (x : Int) (h : w0.heap.size ≤ w.heap.size) : (w.alloc (.cells #[.int .i64 x] 3)).ownsRow w0.heap.size 3 1 (.slice (some ⟨w.heap.size, 0, none⟩) 1 1) [x].length ([x].map iv) :=
  ⟨rfl, Or.inr ⟨w.heap.size, 1, #[.int .i64 x], rfl, h, heap_alloc_last _ _, Nat.le_refl _, by simp [maxLen], rfl, rfl⟩⟩
theorem ints_of_own {w : World} {b : Nat} {p : Option Addr} {n cap : Nat} {xs : List Int} (h : w.ownsRow b 3 1 (.slice p n cap) xs.length (xs.map iv)) : n = xs.length ∧ Ints w p xs := by
  obtain ⟨q, c, e, ho⟩ := own_of_row h
  cases e
  exact ⟨rfl, ho.cells⟩

end Go.Proofs.YtlcppdbpajdnlaaGreat

/- Contracts: the walk along a route, the reference's side. -/
namespace Go.Proofs.YtlcppdbpajdnlaaGreat
open Go.RowKit Go.PlainAid

theorem last_cell {w : World} {p : Option Addr} {l : List Int} (h : Ints w p l) (h0 : 0 < l.length) : ∃ b off, p = some ⟨b, off, none⟩ ∧ w.cell? ⟨b, off + (l.length - 1), none⟩ = some (.int .i64 (lastI l)) := by
  obtain ⟨b, off, x, rfl, hx, hc⟩ := h.at (k := l.length - 1) (by omega)
  refine ⟨b, off, rfl, ?_⟩
  have : lastI l = x := by unfold lastI; rw [List.getLast?_eq_getElem?, hx]; rfl
  rw [this]; exact hc

def isVis (n : Net) (s : Int) (l : List Int) : Bool := (visR n.nodes.length n.fibers s l).isSome
end Go.Proofs.YtlcppdbpajdnlaaGreat

/- Contracts: routes: sizes, copies, comparisons. -/
namespace Go.Proofs.YtlcppdbpajdnlaaGreat
open Go.RowKit Go.PlainAid

/-- A route as it lies in memory: its start, and where its fibers lie. -/
structure LR where
  start : Int
  q : Option Addr
  cap : Nat
  fibs : List Int
abbrev lrC (r : LR) : List Value := [iv r.start, .slice r.q r.fibs.length r.cap]
abbrev lrV (r : LR) : Value := .agg #[iv r.start, .slice r.q r.fibs.length r.cap]
/-- A route as such. -/
abbrev LR.val (r : LR) : Int × List Int := (r.start, r.fibs)

set_option maxHeartbeats 1000000 in
theorem eqRoute_same (r r' : LR) (w : World) (he : r.val = r'.val) (hx : Ints w r.q r.fibs) (hy : Ints w r'.q r'.fibs) (hn : r.fibs.length ≤ 1048576) :
    Calls Tryz.prog 26 #[lrV r, lrV r'] w fun e w' => e = .returned (.bool true) ∧ Fresh w w' := by
  obtain ⟨s, q, cap, l⟩ := r
  obtain ⟨s', q', cap', l'⟩ := r'
  simp only [LR.val, Prod.mk.injEq] at he hx hy hn ⊢
  obtain ⟨rfl, rfl⟩ := he
  obtain ⟨W2, hW2⟩ : ∃ W2, W2 = (w.alloc (.cells #[.int .i64 s, .slice q l.length cap] 53)).alloc (.cells #[.int .i64 s, .slice q' l.length cap'] 53) := ⟨_, rfl⟩
  have hf2 : Fresh w W2 := by rw [hW2]; exact fnew (fnew (frefl _) _) _
  have HX := Lib.hid (hx.keep hf2)
  have HY := Lib.hid (hy.keep hf2)
  have HF2 := Lib.hid hf2
  have HW2 := Lib.hid hW2
  clear hx hy hf2 hW2
  go_enter Tryz.func26, Tryz.ntmps26
  go_wp2_with fail
  rw [← HW2.out]
  have hcc := eqIntS_any q q' cap cap' l l W2 HX.out HY.out (by omega)
  rw [show eqInts l l = true by simp [eqInts]] at hcc
  refine hcc.mono ?_
  clear hcc
  rintro e w1 ⟨rfl, hf⟩
  have HF := Lib.hid (fstep HF2.out hf)
  clear hf
  go_wp2
  go_ret
  exact ⟨rfl, HF.out⟩

def OutRoute (w : World) (r : LR) (e : Ending) (w' : World) : Prop := ∃ r' : LR, e = .returned (lrV r') ∧ r'.val = r.val ∧ Own w' w.heap.size 3 r'.q (r'.fibs.map iv) ∧ Fresh w w'
/-- Three variables that were laid one after the other. -/
theorem three_rows (w : World) (xs ys zz : List Value) (t1 t2 t3 : TypeId) : ∃ W3, W3 = ((w.alloc (.cells xs.toArray t1)).alloc (.cells ys.toArray t2)).alloc (.cells zz.toArray t3) ∧ W3.heap.size = w.heap.size + 1 + 1 + 1 ∧ Fresh w W3 ∧
    RowAt W3 w.heap.size t1 xs ∧ RowAt W3 (w.heap.size + 1) t2 ys ∧ RowAt W3 (w.heap.size + 1 + 1) t3 zz := by
  refine ⟨_, rfl, by simp, fnew (fnew (fnew (frefl _) _) _) _, ((RowAt.new w _ xs).alloc _).alloc _, ?_, ?_⟩
  · have := (RowAt.new (w.alloc (.cells xs.toArray t1)) t2 ys).alloc (.cells zz.toArray t3)
    simpa using this
  · have := RowAt.new ((w.alloc (.cells xs.toArray t1)).alloc (.cells ys.toArray t2)) t3 zz
    simpa using this

end Go.Proofs.YtlcppdbpajdnlaaGreat

/- Contracts: requests: sizes, copies, comparisons. -/
namespace Go.Proofs.YtlcppdbpajdnlaaGreat
open Go.RowKit Go.PlainAid

/-- A request as it lies in memory. -/
structure LQ where
  r : LR
  count : Int
abbrev lqC (x : LQ) : List Value := [iv x.r.start, .slice x.r.q x.r.fibs.length x.r.cap, iv x.count]
abbrev lqV (x : LQ) : Value := .agg #[iv x.r.start, .slice x.r.q x.r.fibs.length x.r.cap, iv x.count]
/-- A request as such. -/
abbrev LQ.val (x : LQ) : (Int × List Int) × Int := (x.r.val, x.count)
/-- The cells of a list of requests, and those of each one's fibers. -/
def Reqs (w : World) (p : Option Addr) (l : List LQ) : Prop := Cells w p (l.flatMap lqC) ∧ ∀ x ∈ l, Ints w x.r.q x.r.fibs
theorem Reqs.keep {w w' : World} {p : Option Addr} {l : List LQ} (h : Reqs w p l) (hb : Fresh w w') : Reqs w' p l := ⟨h.1.keep hb, fun x hx => (h.2 x hx).keep hb⟩
theorem lq_get {l : List LQ} {k : Nat} {f : LQ} (hx : l[k]? = some f) (r : Nat) (hr : r < 3) : (l.flatMap lqC)[k * 3 + r]? = (lqC f)[r]? := flat_get lqC 3 (fun _ => rfl) l k r hr f hx
theorem Reqs.at {w : World} {p : Option Addr} {l : List LQ} (h : Reqs w p l) {k : Nat} (hk : k < l.length) :
    ∃ b off x, p = some ⟨b, off, none⟩ ∧ l[k]? = some x ∧ x ∈ l ∧ Ints w x.r.q x.r.fibs ∧ w.cell? ⟨b, off + k * 3, none⟩ = some (.int .i64 x.r.start) ∧ w.cell? ⟨b, off + k * 3 + 1, none⟩ = some (.slice x.r.q x.r.fibs.length x.r.cap) ∧ w.cell? ⟨b, off + k * 3 + 2, none⟩ = some (.int .i64 x.count) := by
  obtain ⟨b, off, rfl, hc⟩ := Cells.at h.1 (k := k) (by rw [flat_len lqC 3 (fun _ => rfl)]; omega)
  have hx : l[k]? = some l[k] := by simp [hk]
  refine ⟨b, off, _, rfl, hx, List.getElem_mem hk, h.2 _ (List.getElem_mem hk), hc _ _ ?_, ?_, ?_⟩
  · have := lq_get hx 0 (by omega); simpa using this
  · have := hc (k * 3 + 1) _ (by rw [lq_get hx 1 (by omega)]; rfl); rw [← Nat.add_assoc] at this; exact this
  · have := hc (k * 3 + 2) _ (by rw [lq_get hx 2 (by omega)]; rfl); rw [← Nat.add_assoc] at this; exact this

def ReqsSmall (l : List LQ) : Prop := l.length ≤ 1048576 ∧ ∀ x ∈ l, x.r.fibs.length ≤ 1048576
end Go.Proofs.YtlcppdbpajdnlaaGreat

/- Contracts: requests copied; lists of requests compared. -/
namespace Go.Proofs.YtlcppdbpajdnlaaGreat
open Go.RowKit Go.PlainAid

def OutReq (w : World) (x : LQ) (e : Ending) (w' : World) : Prop := ∃ y : LQ, e = .returned (lqV y) ∧ y.val = x.val ∧ Own w' w.heap.size 3 y.r.q (y.r.fibs.map iv) ∧ Fresh w w'
abbrev zReq : List Value := [iv 0, .slice none 0 0, iv 0]
theorem setL_row (f : LQ → List Value) (l' : List LQ) (a : LQ) (m : Nat) (z : List Value) (hf : ∀ x, (f x).length = z.length) : setL (l'.flatMap f ++ zs z (m + 1)) (l'.length * z.length) (f a) = (l' ++ [a]).flatMap f ++ zs z m := by
  have hl : (l'.flatMap f).length = l'.length * z.length := flat_len f z.length hf l'
  rw [zs_succ, ← hl, setL_mid (f a) _ z _ (by rw [hf])]
  simp

end Go.Proofs.YtlcppdbpajdnlaaGreat

/- Contracts: lists of requests compared; valid requests, the reference's side. -/
namespace Go.Proofs.YtlcppdbpajdnlaaGreat
open Go.RowKit Go.PlainAid

def reqB (n : Net) (v : (Int × List Int) × Int) : Bool := isVis n v.1.1 v.1.2 && inB v.2 1 24
def reqsB (n : Net) (l : List ((Int × List Int) × Int)) : Bool := netB n && decide (l.length ≤ 7) && l.all (reqB n)
theorem reqsB_net {n : Net} {l : List ((Int × List Int) × Int)} (h : netB n = false) : reqsB n l = false := by unfold reqsB; rw [h]; rfl
theorem reqsB_long {n : Net} {l : List ((Int × List Int) × Int)} (h : ¬ l.length ≤ 7) : reqsB n l = false := by unfold reqsB; rw [decide_eq_false h]; simp
theorem reqsB_all {n : Net} {l : List ((Int × List Int) × Int)} (h : netB n = true) (h2 : l.length ≤ 7) : reqsB n l = l.all (reqB n) := by unfold reqsB; rw [h, decide_eq_true h2]; simp

end Go.Proofs.YtlcppdbpajdnlaaGreat

/- Contracts: valid requests, the program's side. -/
namespace Go.Proofs.YtlcppdbpajdnlaaGreat
open Go.RowKit Go.PlainAid

end Go.Proofs.YtlcppdbpajdnlaaGreat

/- Routes that came in, opened cell by cell. -/
namespace Go.Proofs.YtlcppdbpajdnlaaGreat
open Go.RowKit Go.ChangeShapes Go.WideShapes Go.ChangeAt Go.Joins

instance : Inhabited LR := ⟨⟨0, none, 0, []⟩⟩
theorem cells_is : Tryz.prog.cellsOf 32 = 1 := by kernel_rfl
section
variable {H : Type} {enc : TypeId × Value → H}
set_option maxRecDepth 100000 in
theorem ints_of_cells {W : World} {fuel : Nat} {cs : List Value} {x : DataW H × List MemPlace} (hfu : DataW.trod enc Tryz.prog W 0 (fun _ => true) true fuel 32 cs = some x) :
    ∃ (q : Option Addr) (cap : Nat) (l : List Int), cs = [.slice q l.length cap] ∧ Ints W q l ∧ l.length ≤ 9223372036854775807 := by
  obtain ⟨q, cap, l, h1, h2, h3, h4, _⟩ := slice_of_cells (fun n : Int => [iv n]) In64 Tryz.underlying32 cells_i (by omega) (fun _ => rfl) (fun fuel cs x hx => by
    obtain ⟨n, rfl, _, hw⟩ := DataW.trod_int Tryz.underlying3 hx
    exact ⟨n, rfl, bounds_i64 hw⟩) hfu
  refine ⟨q, cap, l, h1, ?_, by omega⟩
  unfold Ints
  have e : l.map iv = l.flatMap fun x : Int => [iv x] := flat_one _ _
  rw [e]; exact h2
end
end Go.Proofs.YtlcppdbpajdnlaaGreat

/- Requests that came in, opened cell by cell. -/
namespace Go.Proofs.YtlcppdbpajdnlaaGreat
open Go.RowKit Go.ChangeShapes Go.WideShapes Go.ChangeAt Go.Joins

instance : Inhabited LQ := ⟨⟨default, 0⟩⟩
section
variable {H : Type} {enc : TypeId × Value → H}
end
end Go.Proofs.YtlcppdbpajdnlaaGreat

/- Lists of requests as one value (came in; small; read). -/
namespace Go.Proofs.YtlcppdbpajdnlaaGreat
open Go.RowKit Go.PlainAid

def RqRaw (w : World) (v : Value) (L : List ((Int × List Int) × Int)) : Prop := ∃ p cap l, v = .slice p l.length cap ∧ Reqs w p l ∧ l.length ≤ 9223372036854775807 ∧ (∀ x ∈ l, x.r.fibs.length ≤ 9223372036854775807) ∧ L = l.map LQ.val
def RqSmall (L : List ((Int × List Int) × Int)) : Prop := L.length ≤ 1048576 ∧ ∀ x ∈ L, x.1.2.length ≤ 1048576
def RqIn (w : World) (v : Value) (L : List ((Int × List Int) × Int)) : Prop := ∃ p cap l, v = .slice p l.length cap ∧ Reqs w p l ∧ ReqsSmall l ∧ L = l.map LQ.val
theorem RqRaw.keep {w w' : World} {v : Value} {L : List ((Int × List Int) × Int)} (h : RqRaw w v L) (hb : Fresh w w') : RqRaw w' v L := by
  obtain ⟨p, cap, l, h1, h2, r⟩ := h
  exact ⟨p, cap, l, h1, h2.keep hb, r⟩
theorem RqIn.keep {w w' : World} {v : Value} {L : List ((Int × List Int) × Int)} (h : RqIn w v L) (hb : Fresh w w') : RqIn w' v L := by
  obtain ⟨p, cap, l, h1, h2, r⟩ := h
  exact ⟨p, cap, l, h1, h2.keep hb, r⟩
theorem rqsmall_of {l : List LQ} (h : ReqsSmall l) : RqSmall (l.map LQ.val) := by
  refine ⟨by simpa using h.1, fun x hx => ?_⟩
  obtain ⟨y, hy, rfl⟩ := List.mem_map.1 hx
  exact h.2 y hy
theorem rqsmall_to {l : List LQ} (h : RqSmall (l.map LQ.val)) : ReqsSmall l :=
  ⟨by simpa using h.1, fun x hx => h.2 x.val (List.mem_map_of_mem hx)⟩
theorem RqRaw.small {w : World} {v : Value} {L : List ((Int × List Int) × Int)} (h : RqRaw w v L) (hs : RqSmall L) : RqIn w v L := by
  obtain ⟨p, cap, l, h1, h2, _, _, rfl⟩ := h
  exact ⟨p, cap, l, h1, h2, rqsmall_to hs, rfl⟩
end Go.Proofs.YtlcppdbpajdnlaaGreat

/- Requests that came in, as one value. -/
namespace Go.Proofs.YtlcppdbpajdnlaaGreat
open Go.RowKit Go.ChangeShapes Go.WideShapes Go.ChangeAt Go.Joins
end Go.Proofs.YtlcppdbpajdnlaaGreat

/- Routes as one value (came in; small; read). -/
namespace Go.Proofs.YtlcppdbpajdnlaaGreat
open Go.RowKit Go.PlainAid

def RtRaw (w : World) (v : Value) (R : Int × List Int) : Prop := ∃ s q cap l, v = .agg #[.int .i64 s, .slice q l.length cap] ∧ Ints w q l ∧ l.length ≤ 9223372036854775807 ∧ R = (s, l)
def RtSmall (R : Int × List Int) : Prop := R.2.length ≤ 1048576
def RtIn (w : World) (v : Value) (R : Int × List Int) : Prop := ∃ s q cap l, v = .agg #[.int .i64 s, .slice q l.length cap] ∧ Ints w q l ∧ l.length ≤ 1048576 ∧ R = (s, l)
theorem RtRaw.keep {w w' : World} {v : Value} {R : Int × List Int} (h : RtRaw w v R) (hb : Fresh w w') : RtRaw w' v R := by
  obtain ⟨s, q, cap, l, h1, h2, h3⟩ := h
  exact ⟨s, q, cap, l, h1, h2.keep hb, h3⟩
theorem RtIn.keep {w w' : World} {v : Value} {R : Int × List Int} (h : RtIn w v R) (hb : Fresh w w') : RtIn w' v R := by
  obtain ⟨s, q, cap, l, h1, h2, h3⟩ := h
  exact ⟨s, q, cap, l, h1, h2.keep hb, h3⟩
theorem RtRaw.small {w : World} {v : Value} {R : Int × List Int} (h : RtRaw w v R) (hs : RtSmall R) : RtIn w v R := by
  obtain ⟨s, q, cap, l, h1, h2, h3, rfl⟩ := h
  exact ⟨s, q, cap, l, h1, h2, hs, rfl⟩
theorem RtRaw.shape {w : World} {v : Value} {R : Int × List Int} (h : RtRaw w v R) : ∃ s q m c, v = .agg #[.int .i64 s, .slice q m c] := by
  obtain ⟨s, q, cap, l, h1, _⟩ := h
  exact ⟨_, _, _, _, h1⟩
theorem RtIn.shape {w : World} {v : Value} {R : Int × List Int} (h : RtIn w v R) : ∃ s q m c, v = .agg #[.int .i64 s, .slice q m c] := by
  obtain ⟨s, q, cap, l, h1, _⟩ := h
  exact ⟨_, _, _, _, h1⟩
theorem eqRoute_k (v v' : Value) (R : Int × List Int) (w : World) (h : RtIn w v R) (h' : RtIn w v' R) : Calls Tryz.prog 26 #[v, v'] w fun e w' => e = .returned (.bool true) ∧ Fresh w w' := by
  obtain ⟨s, q, cap, l, rfl, h2, h3, rfl⟩ := h
  obtain ⟨s', q', cap', l', rfl, h2', h3', he⟩ := h'
  exact eqRoute_same ⟨s, q, cap, l⟩ ⟨s', q', cap', l'⟩ w he h2 h2' h3
end Go.Proofs.YtlcppdbpajdnlaaGreat

/- Marks of arguments: requests, routes. -/
namespace Go.Proofs.YtlcppdbpajdnlaaGreat
open Go.RowKit Go.PlainAid

abbrev intT : TypeId → Prop := fun t => t = 3
end Go.Proofs.YtlcppdbpajdnlaaGreat

/- Contracts: slices.Sort and slices.Compact of a slice of ints of the call's own; what two lists have in common. -/
namespace Go.Proofs.YtlcppdbpajdnlaaGreat
open Go.RowKit Go.PlainAid Go.Sort

def sortI (l : List Int) : List Int := l.mergeSort fun x y => decide (x ≤ y)
theorem sortI_len (l : List Int) : (sortI l).length = l.length := by unfold sortI; simp
theorem sortI_mem (l : List Int) (x : Int) : x ∈ sortI l ↔ x ∈ l := by unfold sortI; simp
theorem int_inj {zs ys : List Int} (h : zs.map iv = ys.map iv) : zs = ys := by
  induction zs generalizing ys with
  | nil => cases ys with | nil => rfl | cons => simp at h
  | cons a l ih => cases ys with
    | nil => simp at h
    | cons b m => simp only [List.map_cons, List.cons.injEq, iv, Value.int.injEq, true_and] at h; rw [h.1, ih h.2]

theorem compact_ne {zs : List Int} (h : zs ≠ []) : Lib.compact zs ≠ [] := by
  have : ∀ m, 0 < m → Lib.compactUpTo zs.toArray m ≠ [] := by
    intro m hm
    induction m with
    | zero => omega
    | succ m ih =>
      rw [Lib.compactUpTo_succ]
      rcases Nat.eq_zero_or_pos m with h0 | h0
      · subst h0
        rw [if_pos (Lib.keeps_lt_one _ 0 (by omega))]; simp
      · simp [ih h0]
  exact this _ (List.length_pos_iff.2 h)
theorem compact_nil : Lib.compact ([] : List Int) = [] := by simp [Lib.compact, Lib.compactUpTo]
/-- What two lists have in common, rising. -/
def commonF (a b : List Int) : List Int := Lib.compact (sortI (a.filter fun k => decide (k ∈ b)))
def usesB (a b : List Int) : Bool := a.any fun k => decide (k ∈ b)
theorem common_pos (a b : List Int) : decide (0 < ((commonF a b).length : Int)) = usesB a b := by
  unfold usesB
  cases h : a.any fun k => decide (k ∈ b)
  · have e : (a.filter fun k => decide (k ∈ b)) = [] := by
      rw [List.filter_eq_nil_iff]
      intro x hx
      rw [List.any_eq_false] at h
      exact h x hx
    unfold commonF; rw [e]; simp [sortI, compact_nil]
  · have e : (a.filter fun k => decide (k ∈ b)) ≠ [] := by
      intro he
      rw [List.filter_eq_nil_iff] at he
      rw [List.any_eq_true] at h
      obtain ⟨x, hx, h2⟩ := h
      exact he x hx h2
    have h2 : sortI (a.filter fun k => decide (k ∈ b)) ≠ [] := by
      intro h0
      have := congrArg List.length h0
      rw [sortI_len] at this
      exact e (List.eq_nil_of_length_eq_zero (by simpa using this))
    have := List.length_pos_iff.2 (compact_ne h2)
    unfold commonF
    simp only [decide_eq_true_eq]
    omega
theorem filt_step {a : List Int} {f : Int → Bool} {k : Nat} {x : Int} (hx : a[k]? = some x) : (a.take (k + 1)).filter f = if f x then (a.take k).filter f ++ [x] else (a.take k).filter f := by
  rw [List.take_add_one, hx, List.filter_append]
  cases h : f x <;> simp [h]

end Go.Proofs.YtlcppdbpajdnlaaGreat

