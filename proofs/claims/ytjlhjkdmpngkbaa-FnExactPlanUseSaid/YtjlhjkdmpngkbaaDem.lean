/- Contracts: valid demands, on both sides. -/
import Derived.Test.YtjlhjkdmpngkbaaNet2
namespace Go.Proofs.Ytjlhjkdmpngkbaa
open Go.RowKit Go.PlainAid

/-- The first place at which a test holds, -1 if nowhere. -/
def idxP {α : Type} (l : List α) (f : α → Bool) : Int := match l.findIdx? f with | some k => k | none => -1
theorem idxP_at {α : Type} {l : List α} {f : α → Bool} {k : Nat} {x : α} (h : ∀ j y, j < k → l[j]? = some y → f y = false) (hx : l[k]? = some x) (hf : f x = true) : idxP l f = k := by
  have hlt : k < l.length := by
    rcases Nat.lt_or_ge k l.length with h' | h'
    · exact h'
    · rw [List.getElem?_eq_none h'] at hx; cases hx
  have : l.findIdx? f = some k := by
    rw [List.findIdx?_eq_some_iff_getElem]
    refine ⟨hlt, ?_, ?_⟩
    · rw [List.getElem?_eq_getElem hlt] at hx; simp at hx; rw [hx]; exact hf
    · intro j hj
      have := h j l[j] hj (List.getElem?_eq_getElem (by omega))
      simp [this]
  unfold idxP; rw [this]
theorem idxP_none {α : Type} {l : List α} {f : α → Bool} (h : ∀ j y, j < l.length → l[j]? = some y → f y = false) : idxP l f = -1 := by
  have : l.findIdx? f = none := by
    rw [List.findIdx?_eq_none_iff]
    intro x hx
    obtain ⟨j, hj, rfl⟩ := List.getElem_of_mem hx
    exact h j _ hj (List.getElem?_eq_getElem hj)
  unfold idxP; rw [this]
theorem idxP_any {α : Type} (l : List α) (f : α → Bool) : decide (0 ≤ idxP l f) = l.any f := by
  unfold idxP
  split
  · next k h =>
    rw [List.findIdx?_eq_some_iff_getElem] at h
    obtain ⟨hk, h1, _⟩ := h
    have : l.any f = true := List.any_eq_true.2 ⟨l[k], List.getElem_mem hk, h1⟩
    rw [this]; simp
  · next h =>
    rw [List.findIdx?_eq_none_iff] at h
    have : l.any f = false := by rw [List.any_eq_false]; intro x hx; simp [h x hx]
    rw [this]; rfl
theorem notP {α : Type} {l : List α} {f : α → Bool} {x : α} {k : Nat} (h : ∀ j y, j < k → l[j]? = some y → f y = false) (hx : l[k]? = some x) (hf : f x = false) : ∀ j y, j < k + 1 → l[j]? = some y → f y = false := by
  intro j y hj hy
  rcases Nat.lt_or_ge j k with h' | h'
  · exact h j y h' hy
  · have : j = k := by omega
    subst this; rw [hx] at hy; cases hy; exact hf

/-- A demand: the numbers of two nodes, a rate, a class. -/
def demB (k : Nat) (d : Fib) : Bool := inB d.a 0 ((k : Int) - 1) && inB d.b 0 ((k : Int) - 1) && !(d.a == d.b) && inB d.len 1 1000 && inB d.risk 0 2
def demsB (n : Net) (l : List Fib) : Bool := decide (l.length ≤ 12) && netB n && l.all (demB n.nodes.length)
theorem demsB_bad {n : Net} {l : List Fib} {k : Nat} {d : Fib} (hx : l[k]? = some d) (h : demB n.nodes.length d = false) : demsB n l = false := by
  unfold demsB; rw [all_false hx h, Bool.and_false]
theorem demsB_long {n : Net} {l : List Fib} (h : ¬ l.length ≤ 12) : demsB n l = false := by unfold demsB; rw [decide_eq_false h]; rfl
theorem demsB_end {n : Net} {l : List Fib} (h : l.length ≤ 12) (ha : l.all (demB n.nodes.length) = true) : demsB n l = netB n := by unfold demsB; rw [decide_eq_true h, ha]; simp

set_option maxHeartbeats 4000000 in
theorem l10Demand_any (v : Value) (n : Net) (d : Fib) (w : World) (h : NetIn w v n) : Calls Try.prog 136 #[v, fibV d] w fun e w' => e = .returned (.bool (demB n.nodes.length d)) ∧ Fresh w w' := by
  obtain ⟨N, G⟩ := n
  obtain ⟨q, c, p, d', rfl, hN, hF, n1, n2, n3, n4, hsz⟩ := h
  simp only at hN hF n1 n2 n3 hsz ⊢
  clear hsz hN hF
  obtain ⟨a, b, x, y⟩ := d
  cases h1 : inB a 0 ((N.length : Int) - 1)
  · have HE : Hid (demB N.length ⟨a, b, x, y⟩ = false) := by show demB N.length ⟨a, b, x, y⟩ = false; simp [demB, *]
    go_enter Try.func136, Try.ntmps136
    go_wp2_with (go_at_call 143; refine (l1In_any _ _ _ _).mono ?_; rintro e w' ⟨rfl, rfl⟩)
    go_ret
    exact ⟨ret_bool HE.out.symm, fnew (fnew (frefl _) _) _⟩
  · cases h2 : inB b 0 ((N.length : Int) - 1)
    · have HE : Hid (demB N.length ⟨a, b, x, y⟩ = false) := by show demB N.length ⟨a, b, x, y⟩ = false; simp [demB, *]
      go_enter Try.func136, Try.ntmps136
      go_wp2_with (go_at_call 143; refine (l1In_any _ _ _ _).mono ?_; rintro e w' ⟨rfl, rfl⟩)
      go_ret
      exact ⟨ret_bool HE.out.symm, fnew (fnew (frefl _) _) _⟩
    · by_cases h3' : a = b
      · subst h3'
        have HE : Hid (demB N.length ⟨a, a, x, y⟩ = false) := by show demB N.length ⟨a, a, x, y⟩ = false; simp [demB, *]
        go_enter Try.func136, Try.ntmps136
        go_wp2_with (go_at_call 143; refine (l1In_any _ _ _ _).mono ?_; rintro e w' ⟨rfl, rfl⟩)
        go_ret
        exact ⟨ret_bool HE.out.symm, fnew (fnew (frefl _) _) _⟩
      · have h3 : (a == b) = false := by simp [h3']
        cases h4 : inB x 1 1000
        · have HE : Hid (demB N.length ⟨a, b, x, y⟩ = false) := by show demB N.length ⟨a, b, x, y⟩ = false; simp [demB, *]
          go_enter Try.func136, Try.ntmps136
          go_wp2_with (go_at_call 143; refine (l1In_any _ _ _ _).mono ?_; rintro e w' ⟨rfl, rfl⟩)
          go_ret
          exact ⟨ret_bool HE.out.symm, fnew (fnew (frefl _) _) _⟩
        · cases h5 : inB y 0 2
          · have HE : Hid (demB N.length ⟨a, b, x, y⟩ = false) := by show demB N.length ⟨a, b, x, y⟩ = false; simp [demB, *]
            go_enter Try.func136, Try.ntmps136
            go_wp2_with (go_at_call 143; refine (l1In_any _ _ _ _).mono ?_; rintro e w' ⟨rfl, rfl⟩)
            go_ret
            exact ⟨ret_bool HE.out.symm, fnew (fnew (frefl _) _) _⟩
          · have HE : Hid (demB N.length ⟨a, b, x, y⟩ = true) := by show demB N.length ⟨a, b, x, y⟩ = true; simp [demB, *]
            go_enter Try.func136, Try.ntmps136
            go_wp2_with (go_at_call 143; refine (l1In_any _ _ _ _).mono ?_; rintro e w' ⟨rfl, rfl⟩)
            go_ret
            exact ⟨ret_bool HE.out.symm, fnew (fnew (frefl _) _) _⟩

set_option maxHeartbeats 4000000 in
theorem isDemand_any (v : Value) (n : Net) (d : Fib) (w : World) (h : NetIn w v n) : Calls Try.prog 81 #[v, fibV d] w fun e w' => e = .returned (.bool (demB n.nodes.length d)) ∧ Fresh w w' := by
  obtain ⟨N, G⟩ := n
  obtain ⟨q, c, p, d', rfl, hN, hF, n1, n2, n3, n4, hsz⟩ := h
  simp only at hN hF n1 n2 n3 hsz ⊢
  clear hsz hN hF
  obtain ⟨a, b, x, y⟩ := d
  cases h1 : inB a 0 ((N.length : Int) - 1)
  · have HE : Hid (demB N.length ⟨a, b, x, y⟩ = false) := by show demB N.length ⟨a, b, x, y⟩ = false; simp [demB, *]
    go_enter Try.func81, Try.ntmps81
    go_wp2_with (go_at_call 91; refine (within_any _ _ _ _).mono ?_; rintro e w' ⟨rfl, rfl⟩)
    go_ret
    exact ⟨ret_bool HE.out.symm, fnew (fnew (frefl _) _) _⟩
  · cases h2 : inB b 0 ((N.length : Int) - 1)
    · have HE : Hid (demB N.length ⟨a, b, x, y⟩ = false) := by show demB N.length ⟨a, b, x, y⟩ = false; simp [demB, *]
      go_enter Try.func81, Try.ntmps81
      go_wp2_with (go_at_call 91; refine (within_any _ _ _ _).mono ?_; rintro e w' ⟨rfl, rfl⟩)
      go_ret
      exact ⟨ret_bool HE.out.symm, fnew (fnew (frefl _) _) _⟩
    · by_cases h3' : a = b
      · subst h3'
        have HE : Hid (demB N.length ⟨a, a, x, y⟩ = false) := by show demB N.length ⟨a, a, x, y⟩ = false; simp [demB, *]
        go_enter Try.func81, Try.ntmps81
        go_wp2_with (go_at_call 91; refine (within_any _ _ _ _).mono ?_; rintro e w' ⟨rfl, rfl⟩)
        go_ret
        exact ⟨ret_bool HE.out.symm, fnew (fnew (frefl _) _) _⟩
      · have h3 : (a == b) = false := by simp [h3']
        cases h4 : inB x 1 1000
        · have HE : Hid (demB N.length ⟨a, b, x, y⟩ = false) := by show demB N.length ⟨a, b, x, y⟩ = false; simp [demB, *]
          go_enter Try.func81, Try.ntmps81
          go_wp2_with (go_at_call 91; refine (within_any _ _ _ _).mono ?_; rintro e w' ⟨rfl, rfl⟩)
          go_ret
          exact ⟨ret_bool HE.out.symm, fnew (fnew (frefl _) _) _⟩
        · cases h5 : inB y 0 2
          · have HE : Hid (demB N.length ⟨a, b, x, y⟩ = false) := by show demB N.length ⟨a, b, x, y⟩ = false; simp [demB, *]
            go_enter Try.func81, Try.ntmps81
            go_wp2_with (go_at_call 91; refine (within_any _ _ _ _).mono ?_; rintro e w' ⟨rfl, rfl⟩)
            go_ret
            exact ⟨ret_bool HE.out.symm, fnew (fnew (frefl _) _) _⟩
          · have HE : Hid (demB N.length ⟨a, b, x, y⟩ = true) := by show demB N.length ⟨a, b, x, y⟩ = true; simp [demB, *]
            go_enter Try.func81, Try.ntmps81
            go_wp2_with (go_at_call 91; refine (within_any _ _ _ _).mono ?_; rintro e w' ⟨rfl, rfl⟩)
            go_ret
            exact ⟨ret_bool HE.out.symm, fnew (fnew (frefl _) _) _⟩

theorem NetIn.in_box {w : World} {v : Value} {n : Net} (h : NetIn w v n) {w1 : World} {t : TypeId} (hf : Fresh (w.alloc (.cells v.cells t)) w1) :
    ∃ a b, v = .agg #[a, b] ∧ w1.cell? ⟨w.heap.size, 0, none⟩ = some a ∧ w1.cell? ⟨w.heap.size, 1, none⟩ = some b := by
  obtain ⟨q, c, p, d, rfl, _⟩ := h
  exact ⟨_, _, rfl, box hf 0 rfl, box hf 1 rfl⟩

set_option maxHeartbeats 2000000 in
set_option maxRecDepth 100000 in
theorem l10Demands_any (v : Value) (n : Net) (p : Option Addr) (cap : Nat) (l : List Fib) (w : World) (h : NetIn w v n) (hl : Fibs w p l) (hn : l.length ≤ 1048576) :
    Calls Try.prog 74 #[v, .slice p l.length cap] w fun e w' => e = .returned (.bool (demsB n l)) ∧ Fresh w w' := by
  have HN := Lib.hid h
  obtain ⟨q, c, p', d', hv, _⟩ := h
  subst hv
  go_enter Try.func74, Try.ntmps74
  go_wp2
  go_loopw [5] (fun i wr => ∃ k : Nat, k ≤ l.length ∧ k ≤ 13 ∧ i = .int .i64 k ∧ (l.take k).all (demB n.nodes.length) = true ∧ Fresh (w.alloc (.cells #[.slice q n.nodes.length c, .slice p' n.fibers.length d'] 32)) wr) (fun i _ => l.length - (intOf i).toNat)
  case atStart => exact ⟨0, Nat.zero_le _, by omega, rfl, by simp, frefl _⟩
  case round =>
    obtain ⟨k, hk, hk13, rfl, hall, hf⟩ := hrel
    have HA := Lib.hid hall
    clear hall
    have hb0 := box hf 0 (v := .slice q n.nodes.length c) rfl
    have hb1 := box hf 1 (v := .slice p' n.fibers.length d') rfl
    have hW : Fresh w wr := fstep (fnew (frefl _) _) hf
    have HF := Lib.hid hf
    have HW := Lib.hid hW
    clear hf
    by_cases hlt : k < l.length
    · have hltz : decide ((k : Int) < (l.length : Int)) = true := decide_eq_true (by omega)
      by_cases h12 : k ≤ 12
      · have hd12 : decide ((k : Int) ≤ 12) = true := decide_eq_true (by omega)
        have hltz2 : (k : Int) < (l.length : Int) := by omega
        obtain ⟨b, off, x, y, z, u, rfl, hx, hc0, hc1, hc2, hc3⟩ := (hl.keep hW).at hlt
        clear hW
        cases hd : demB n.nodes.length ⟨x, y, z, u⟩
        · have HE := Lib.hid (demsB_bad (n := n) hx hd)
          clear hx
          go_wp2
          go_still_tail 5, (by kernel_rfl)
          change wpList _ _ _ _ _ wr.drew
          have HF2 : Hid (Fresh w wr.drew) := fdrew HW.out
          have HF2b := Lib.hid (fdrew HF.out)
          generalize wr.drew = w2 at HF2 HF2b
          go_wp2_with fail
          refine (l10Demand_any _ n ⟨x, y, z, u⟩ _ (HN.out.keep HF2.out)).mono ?_
          rintro e w3 ⟨rfl, hb⟩
          have HF3 := Lib.hid (fstep HF2.out hb)
          have HF4 := Lib.hid (fstep HF2b.out hb)
          clear hb
          go_wp2
          go_ret
          exact ⟨ret_bool HE.out.symm, HF3.out⟩
        · have HE := Lib.hid (all_step HA.out hx hd)
          clear hx
          go_wp2
          go_still_tail 5, (by kernel_rfl)
          change wpList _ _ _ _ _ wr.drew
          have HF2 : Hid (Fresh w wr.drew) := fdrew HW.out
          have HF2b := Lib.hid (fdrew HF.out)
          generalize wr.drew = w2 at HF2 HF2b
          go_wp2_with fail
          refine (l10Demand_any _ n ⟨x, y, z, u⟩ _ (HN.out.keep HF2.out)).mono ?_
          rintro e w3 ⟨rfl, hb⟩
          have HF3 := Lib.hid (fstep HF2.out hb)
          have HF4 := Lib.hid (fstep HF2b.out hb)
          clear hb
          go_wp2
          go_roundw
          case rel => exact ⟨k + 1, by omega, by omega, by go_num, HE.out, HF4.out⟩
          case measure => simp [intOf]; omega
      · have hd12 : decide ((k : Int) ≤ 12) = false := decide_eq_false (by omega)
        have HE := Lib.hid (demsB_long (n := n) (l := l) (by omega))
        have hd : decide ((l.length : Int) ≤ 12) = false := decide_eq_false (by omega)
        clear hW
        go_wp2
        go_ret
        exact ⟨ret_bool HE.out.symm, HW.out⟩
    · have hkn : k = l.length := by omega
      have hltz : decide ((k : Int) < (l.length : Int)) = false := decide_eq_false (by omega)
      by_cases h12 : l.length ≤ 12
      · have HE := Lib.hid (demsB_end (n := n) h12 (by have := HA.out; rw [hkn, List.take_length] at this; exact this))
        have hd : decide ((l.length : Int) ≤ 12) = true := decide_eq_true (by omega)
        clear hW
        go_wp2_with fail
        refine (l2Good_any _ n _ (HN.out.keep HW.out)).mono ?_
        rintro e w1 ⟨rfl, hb⟩
        have HB := Lib.hid hb
        clear hb
        go_wp2
        go_ret
        exact ⟨ret_bool HE.out.symm, fstep HW.out HB.out⟩
      · have HE := Lib.hid (demsB_long (n := n) (l := l) h12)
        have hd : decide ((l.length : Int) ≤ 12) = false := decide_eq_false (by omega)
        clear hW
        go_wp2
        go_ret
        exact ⟨ret_bool HE.out.symm, HW.out⟩

set_option maxHeartbeats 1000000 in
theorem demClo_any (v : Value) (n : Net) (d : Fib) (h : Nat) (w : World) (hN : NetIn w v n) (ha : ∃ a b, v = .agg #[a, b] ∧ w.cell? ⟨h, 0, none⟩ = some a ∧ w.cell? ⟨h, 1, none⟩ = some b) :
    Calls Try.prog 80 #[fibV d, .pointer (some ⟨h, 0, none⟩)] w fun e w' => e = .returned (.bool (!demB n.nodes.length d)) ∧ Fresh w w' := by
  obtain ⟨a, b, rfl, hc0, hc1⟩ := ha
  have HN := Lib.hid hN
  clear hN
  obtain ⟨x, y, z, u⟩ := d
  have hf : Fresh w (w.alloc (.cells #[iv x, iv y, iv z, iv u] 114)) := fnew (frefl _) _
  have hd0 := fkeep hf hc0
  have hd1 := fkeep hf hc1
  have HF := Lib.hid hf
  clear hf
  go_enter Try.func80, Try.ntmps80
  go_wp2_with fail
  refine (isDemand_any _ n ⟨x, y, z, u⟩ _ (HN.out.keep HF.out)).mono ?_
  rintro e w1 ⟨rfl, hb⟩
  have HB := Lib.hid (fstep HF.out hb)
  clear hb
  go_wp2
  go_ret
  exact ⟨rfl, HB.out⟩

set_option maxHeartbeats 2000000 in
theorem demIndex_any (p : Option Addr) (cap : Nat) (l : List Fib) (g : Fib → Bool) (cp : Array Value) (w : World) (hl : Fibs w p l) (hn : l.length ≤ 1048576)
    (hcl : ∀ (d : Fib) (w' : World), Fresh w w' → Calls Try.prog 80 (#[fibV d] ++ cp) w' fun e w'' => e = .returned (.bool (g d)) ∧ Fresh w' w'') :
    Calls Try.prog 141 #[.slice p l.length cap, .func (.func 80) #[] cp] w fun e w' => e = .returned (.int .i64 (idxP l g)) ∧ Fresh w w' := by
  have HC := Lib.hid hcl
  clear hcl
  go_enter Try.func141, Try.ntmps141
  go_wp2
  go_loopw [5, 8] (fun _ i wr => ∃ k : Nat, k ≤ l.length ∧ i = .int .i64 k ∧ (∀ j y, j < k → l[j]? = some y → g y = false) ∧ Fresh w wr) (fun _ i _ => l.length - (intOf i).toNat)
  case atStart => exact ⟨0, Nat.zero_le _, rfl, fun j y hj => by omega, frefl _⟩
  case round =>
    obtain ⟨k, hk, rfl, hall, hf⟩ := hrel
    have HA := Lib.hid hall
    clear hall
    have HF := Lib.hid hf
    by_cases hlt : k < l.length
    · obtain ⟨b, off, x, y, z, u, rfl, hx, hc0, hc1, hc2, hc3⟩ := (hl.keep hf).at hlt
      have hltz : (k : Int) < (l.length : Int) := by omega
      clear hf
      cases hg : g ⟨x, y, z, u⟩
      · have HE := Lib.hid (notP HA.out hx hg)
        clear hx
        go_wp2_with fail
        refine (HC.out ⟨x, y, z, u⟩ _ HF.out).mono ?_
        rintro e w1 ⟨rfl, hb⟩
        have HB := Lib.hid (fstep HF.out hb)
        clear hb
        go_wp2
        go_roundw
        case rel => exact ⟨k + 1, by omega, by go_num, HE.out, HB.out⟩
        case measure => simp [intOf]; omega
      · have HE := Lib.hid (idxP_at HA.out hx hg)
        clear hx
        go_wp2_with fail
        refine (HC.out ⟨x, y, z, u⟩ _ HF.out).mono ?_
        rintro e w1 ⟨rfl, hb⟩
        have HB := Lib.hid (fstep HF.out hb)
        clear hb
        go_wp2
        go_ret
        exact ⟨ret_int HE.out.symm, HB.out⟩
    · have hkn : k = l.length := by omega
      have hltz : ¬ (k : Int) < (l.length : Int) := by omega
      have HE := Lib.hid (idxP_none (l := l) (f := g) (by rw [← hkn]; exact HA.out))
      clear hf
      go_wp2
      go_ret
      exact ⟨ret_int HE.out.symm, HF.out⟩

set_option maxHeartbeats 1000000 in
theorem demContains_any (p : Option Addr) (cap : Nat) (l : List Fib) (g : Fib → Bool) (cp : Array Value) (w : World) (hl : Fibs w p l) (hn : l.length ≤ 1048576)
    (hcl : ∀ (d : Fib) (w' : World), Fresh w w' → Calls Try.prog 80 (#[fibV d] ++ cp) w' fun e w'' => e = .returned (.bool (g d)) ∧ Fresh w' w'') :
    Calls Try.prog 79 #[.slice p l.length cap, .func (.func 80) #[] cp] w fun e w' => e = .returned (.bool (l.any g)) ∧ Fresh w w' := by
  have HI := Lib.hid (demIndex_any p cap l g cp w hl hn hcl)
  have HE := Lib.hid (idxP_any l g)
  clear hcl hl
  go_enter Try.func79, Try.ntmps79
  go_wp2_with fail
  refine HI.out.mono ?_
  rintro e w1 ⟨rfl, hb⟩
  have HB := Lib.hid hb
  clear hb
  go_wp2
  go_ret
  exact ⟨ret_bool HE.out, HB.out⟩
theorem any_not {α : Type} (l : List α) (f : α → Bool) : (!l.any fun x => !f x) = l.all f := by
  induction l with
  | nil => rfl
  | cons a l ih => simp [List.any_cons, List.all_cons, ← ih]

set_option maxHeartbeats 2000000 in
theorem implIsValidDemands_any (v : Value) (n : Net) (p : Option Addr) (cap : Nat) (l : List Fib) (w : World) (h : NetIn w v n) (hl : Fibs w p l) (hn : l.length ≤ 1048576) :
    Calls Try.prog 20 #[v, .slice p l.length cap] w fun e w' => e = .returned (.bool (demsB n l)) ∧ Fresh w w' := by
  have HN := Lib.hid h
  have HL := Lib.hid hl
  clear hl
  have hmf : ∀ (fn : Fn) (first cap : Array Value) (w : World), (Instr.makeFunc fn first cap).run Try.prog w = .ok (.func fn first cap) w := fun _ _ _ _ => rfl
  obtain ⟨q, c, p', d', hv, _⟩ := h
  subst hv
  have HW := Lib.hid (fnew (frefl w) (.cells #[.slice q n.nodes.length c, .slice p' n.fibers.length d'] 32))
  go_enter Try.func20, Try.ntmps20
  go_wp2_with fail
  refine (implIsValidNetwork_any _ n _ (HN.out.keep HW.out)).mono ?_
  rintro e w1 ⟨rfl, hb⟩
  have hb0 := box hb 0 (v := .slice q n.nodes.length c) rfl
  have hb1 := box hb 1 (v := .slice p' n.fibers.length d') rfl
  have HB := Lib.hid (fstep HW.out hb)
  clear hb
  cases hnet : netB n
  · have HE : Hid (demsB n l = false) := by show demsB n l = false; simp [demsB, hnet]
    go_wp2
    go_ret
    exact ⟨ret_bool HE.out.symm, HB.out⟩
  · by_cases h12 : l.length ≤ 12
    · have hd : decide ((l.length : Int) ≤ 12) = true := decide_eq_true (by omega)
      have HE : Hid ((!l.any fun x => !demB n.nodes.length x) = demsB n l) := by
        show (!l.any fun x => !demB n.nodes.length x) = demsB n l
        rw [any_not]; unfold demsB; rw [decide_eq_true h12, hnet]; rfl
      go_wp2_with fail
      refine (demContains_any p cap l (fun x => !demB n.nodes.length x) #[.pointer (some ⟨w.heap.size, 0, none⟩)] _ (HL.out.keep HB.out) hn
        (fun d w' hf => demClo_any _ n d w.heap.size w' ((HN.out.keep HB.out).keep hf) ⟨_, _, rfl, fkeep hf hb0, fkeep hf hb1⟩)).mono ?_
      rintro e w2 ⟨rfl, hb2⟩
      have HB2 := Lib.hid (fstep HB.out hb2)
      clear hb2
      go_wp2
      go_ret
      exact ⟨ret_bool HE.out, HB2.out⟩
    · have hd : decide ((l.length : Int) ≤ 12) = false := decide_eq_false (by omega)
      have HE := Lib.hid (demsB_long (n := n) (l := l) h12)
      go_wp2
      go_ret
      exact ⟨ret_bool HE.out.symm, HB.out⟩

set_option maxHeartbeats 1000000 in
theorem specIsValidDemands_any (v : Value) (n : Net) (p : Option Addr) (cap : Nat) (l : List Fib) (w : World) (h : NetIn w v n) (hl : Fibs w p l) (hn : l.length ≤ 1048576) :
    Calls Try.prog 17 #[v, .slice p l.length cap] w fun e w' => e = .returned (.bool (demsB n l)) ∧ Fresh w w' := by
  have HN := Lib.hid h
  have HL := Lib.hid hl
  clear hl
  obtain ⟨q, c, p', d', hv, _⟩ := h
  subst hv
  have HW := Lib.hid (fnew (frefl w) (.cells #[.slice q n.nodes.length c, .slice p' n.fibers.length d'] 32))
  go_enter Try.func17, Try.ntmps17
  go_wp2_with fail
  refine (l10Demands_any _ n p cap l _ (HN.out.keep HW.out) (HL.out.keep HW.out) hn).mono ?_
  rintro e w1 ⟨rfl, hb⟩
  have HB := Lib.hid (fstep HW.out hb)
  clear hb
  go_wp2
  go_ret
  exact ⟨rfl, HB.out⟩
end Go.Proofs.Ytjlhjkdmpngkbaa
