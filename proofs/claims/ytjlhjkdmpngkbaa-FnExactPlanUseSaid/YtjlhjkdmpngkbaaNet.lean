/- Contracts: valid networks, on both sides. -/
import Derived.Test.YtjlhjkdmpngkbaaStr
namespace Go.Proofs.Ytjlhjkdmpngkbaa
open Go.RowKit Go.PlainAid

def Fibs (w : World) (p : Option Addr) (l : List Fib) : Prop := Cells w p (l.flatMap fibC)
theorem Fibs.keep {w w' : World} {p : Option Addr} {l : List Fib} (h : Fibs w p l) (hb : Fresh w w') : Fibs w' p l := Cells.keep h hb
theorem fib_get {l : List Fib} {k : Nat} {f : Fib} (hx : l[k]? = some f) (r : Nat) (hr : r < 4) : (l.flatMap fibC)[k * 4 + r]? = (fibC f)[r]? := flat_get fibC 4 (fun _ => rfl) l k r hr f hx
theorem Fibs.at {w : World} {p : Option Addr} {l : List Fib} (h : Fibs w p l) {k : Nat} (hk : k < l.length) :
    ∃ b off x y z u, p = some ⟨b, off, none⟩ ∧ l[k]? = some ⟨x, y, z, u⟩ ∧ w.cell? ⟨b, off + k * 4, none⟩ = some (.int .i64 x) ∧ w.cell? ⟨b, off + k * 4 + 1, none⟩ = some (.int .i64 y) ∧ w.cell? ⟨b, off + k * 4 + 2, none⟩ = some (.int .i64 z) ∧ w.cell? ⟨b, off + k * 4 + 3, none⟩ = some (.int .i64 u) := by
  obtain ⟨b, off, rfl, hc⟩ := Cells.at h (k := k) (by rw [flat_len fibC 4 (fun _ => rfl)]; omega)
  have hx : l[k]? = some l[k] := by simp [hk]
  refine ⟨b, off, _, _, _, _, rfl, hx, hc _ _ ?_, ?_, ?_, ?_⟩
  · have := fib_get hx 0 (by omega); simpa using this
  · have := hc (k * 4 + 1) (iv l[k].b) (by rw [fib_get hx 1 (by omega)]; rfl); rw [← Nat.add_assoc] at this; exact this
  · have := hc (k * 4 + 2) (iv l[k].len) (by rw [fib_get hx 2 (by omega)]; rfl); rw [← Nat.add_assoc] at this; exact this
  · have := hc (k * 4 + 3) (iv l[k].risk) (by rw [fib_get hx 3 (by omega)]; rfl); rw [← Nat.add_assoc] at this; exact this
theorem Fibs.prev {w : World} {b off : Nat} {l : List Fib} (h : Fibs w (some ⟨b, off, none⟩) l) {k : Nat} (hk : k < l.length) (h0 : 0 < k) :
    ∃ x y z u, l[k - 1]? = some ⟨x, y, z, u⟩ ∧ w.cell? ⟨b, off + (k - 1) * 4, none⟩ = some (.int .i64 x) ∧ w.cell? ⟨b, off + (k - 1) * 4 + 1, none⟩ = some (.int .i64 y) ∧ w.cell? ⟨b, off + (k - 1) * 4 + 2, none⟩ = some (.int .i64 z) ∧ w.cell? ⟨b, off + (k - 1) * 4 + 3, none⟩ = some (.int .i64 u) := by
  obtain ⟨b', off', x, y, z, u, he, hx, h1, h2, h3, h4⟩ := h.at (k := k - 1) (by omega)
  simp at he
  obtain ⟨rfl, rfl⟩ := he
  exact ⟨x, y, z, u, hx, h1, h2, h3, h4⟩

structure Net where
  nodes : List ByteArray
  fibers : List Fib
/-- A network that lies in memory. -/
def NetIn (w : World) (v : Value) (n : Net) : Prop := ∃ q c p d, v = .agg #[.slice q n.nodes.length c, .slice p n.fibers.length d] ∧ Strs w q n.nodes ∧ Fibs w p n.fibers ∧ n.nodes.length ≤ 1048576 ∧ n.fibers.length ≤ 1048576 ∧ n.nodes.length ≤ c ∧ c ≤ 9223372036854775807 ∧ ∀ s ∈ n.nodes, s.size ≤ 1048576
theorem NetIn.keep {w w' : World} {v : Value} {n : Net} (h : NetIn w v n) (hb : Fresh w w') : NetIn w' v n := by
  obtain ⟨q, c, p, d, h1, h2, h3, r⟩ := h
  exact ⟨q, c, p, d, h1, h2.keep hb, h3.keep hb, r⟩

def nameAt (l : List ByteArray) (k : Nat) : Bool := match l[k]? with | some s => nameB s && decide (idxL l s = k) | none => true
def fibAt (N : Int) (l : List Fib) (k : Nat) : Bool := match l[k]? with
  | some f => fibB N f && (decide (k = 0) || match l[k - 1]? with | some g => !fibAfter g f | none => true)
  | none => true
def netB (n : Net) : Bool := inB n.nodes.length 2 8 && decide (n.fibers.length ≤ 14) && (List.range n.nodes.length).all (nameAt n.nodes) && (List.range n.fibers.length).all (fibAt n.nodes.length n.fibers)
theorem netB_size {n : Net} (h : inB n.nodes.length 2 8 = false) : netB n = false := by simp [netB, h]
theorem netB_many {n : Net} (h : ¬ n.fibers.length ≤ 14) : netB n = false := by simp [netB, h]
theorem netB_name {n : Net} {k : Nat} (hk : k < n.nodes.length) (h : nameAt n.nodes k = false) : netB n = false := by
  have := rall_bad hk h; unfold netB; rw [this]; simp
theorem netB_fib {n : Net} {k : Nat} (hk : k < n.fibers.length) (h : fibAt n.nodes.length n.fibers k = false) : netB n = false := by
  have := rall_bad hk h; unfold netB; rw [this]; simp
theorem netB_end {n : Net} (h2 : ∀ k, k < n.nodes.length → nameAt n.nodes k = true) (h3 : ∀ k, k < n.fibers.length → fibAt n.nodes.length n.fibers k = true) : netB n = (inB n.nodes.length 2 8 && decide (n.fibers.length ≤ 14)) := by
  unfold netB; rw [rall_end h2, rall_end h3]; simp
theorem nameAt_of {l : List ByteArray} {k : Nat} {s : ByteArray} (hx : l[k]? = some s) : nameAt l k = (nameB s && decide (idxL l s = k)) := by unfold nameAt; rw [hx]
theorem fibAt_first {N : Int} {l : List Fib} {k : Nat} {f : Fib} (hx : l[k]? = some f) (h0 : ¬ 0 < k) : fibAt N l k = fibB N f := by unfold fibAt; rw [hx]; simp; omega
theorem fibAt_next {N : Int} {l : List Fib} {k : Nat} {f g : Fib} (hx : l[k]? = some f) (hp : l[k - 1]? = some g) (h0 : 0 < k) : fibAt N l k = (fibB N f && !fibAfter g f) := by
  unfold fibAt; rw [hx, hp]; simp [show k ≠ 0 by omega]
theorem fibAt_bad {N : Int} {l : List Fib} {k : Nat} {f : Fib} (hx : l[k]? = some f) (h : fibB N f = false) : fibAt N l k = false := by unfold fibAt; rw [hx]; simp [h]
theorem fibAt_good {N : Int} {l : List Fib} {k : Nat} {f : Fib} (hx : l[k]? = some f) (h : fibAt N l k = true) : fibB N f = true := by
  unfold fibAt at h; rw [hx] at h; simp at h; exact h.1
theorem fib_ab {N : Int} {x y z u : Int} (h : fibB N ⟨x, y, z, u⟩ = true) (hN : N ≤ 1048576) : Ab x ∧ Ab y ∧ Ab z ∧ Ab u := by
  unfold fibB at h
  simp only [Bool.and_eq_true, decide_eq_true_eq, inB] at h
  unfold Ab
  omega
theorem l2Name_q (s : ByteArray) (w : World) (n : Nat) (hs : s.size ≤ 9223372036854775807) : Calls Try.prog 157 #[.string s] (w.drewN n) fun e w' => e = .returned (.bool (nameB s)) ∧ w' = w.drewN n :=
  (l2Name_any s _ hs).mono fun _ _ ⟨h1, h2⟩ => ⟨h1, h2.symm⟩
theorem l2Find_q (p : Option Addr) (cap : Nat) (l : List ByteArray) (s : ByteArray) (w : World) (n : Nat) (hI : Strs w p l) (hn : l.length ≤ 9223372036854775806) :
    Calls Try.prog 158 #[.slice p l.length cap, .string s] (w.drewN n) fun e w' => e = .returned (.int .i64 (idxL l s)) ∧ w' = w.drewN n :=
  (l2Find_any p cap l s _ (hI.keep (fdrewN (frefl _) n)) hn).mono fun _ _ ⟨h1, h2⟩ => ⟨h1, h2.symm⟩

set_option maxHeartbeats 4000000 in
set_option maxRecDepth 100000 in
theorem l2Good_any (v : Value) (n : Net) (w : World) (h : NetIn w v n) : Calls Try.prog 108 #[v] w fun e w' => e = .returned (.bool (netB n)) ∧ Fresh w w' := by
  obtain ⟨N, F⟩ := n
  obtain ⟨q, c, p, d, rfl, hN, hF, n1, n2, n3, n4, hsz⟩ := h
  simp only at hN hF n1 n2 n3 hsz ⊢
  have hsz' := Lib.hid hsz
  clear hsz
  cases h1 : inB N.length 2 8
  · have HE := Lib.hid (netB_size (n := ⟨N, F⟩) h1)
    go_enter Try.func108, Try.ntmps108
    go_wp2_with (go_at_call 143; refine (l1In_any _ _ _ _).mono ?_; rintro e w' ⟨rfl, rfl⟩)
    go_ret
    exact ⟨ret_bool HE.out.symm, fnew (frefl _) _⟩
  · have g1 := (inB_iff.1 h1)
    have HI1 := Lib.hid h1
    by_cases h2 : F.length ≤ 14
    · have hd2 : decide (14 < (F.length : Int)) = false := decide_eq_false (by omega)
      go_enter Try.func108, Try.ntmps108
      go_wp2_with (go_at_call 143; refine (l1In_any _ _ _ _).mono ?_; rintro e w' ⟨rfl, rfl⟩)
      clear hd2 h1
      go_loopw [3] (fun i wr => ∃ k : Nat, k ≤ N.length ∧ i = .int .i64 k ∧ (∀ j, j < k → nameAt N j = true) ∧ Fresh (w.alloc (.cells #[.slice q N.length c, .slice p F.length d] 32)) wr) (fun i _ => N.length - (intOf i).toNat)
      case atStart => exact ⟨0, Nat.zero_le _, rfl, fun j hj => by omega, frefl _⟩
      case round =>
        obtain ⟨k, hk, rfl, hall, hf⟩ := hrel
        have HA := Lib.hid hall
        clear hall
        have hb0 := box hf 0 (v := .slice q N.length c) rfl
        have hb1 := box hf 1 (v := .slice p F.length d) rfl
        have hW : Fresh w wr := fstep (fnew (frefl _) _) hf
        have HF := Lib.hid hf
        have HW := Lib.hid hW
        clear hf
        by_cases hlt : k < N.length
        · have HS := Lib.hid (hN.keep hW)
          obtain ⟨b, off, s, rfl, hx, hc⟩ := (hN.keep hW).at hlt
          have HI : Hid (Strs wr (some ⟨b, off, none⟩) N) := HS.out
          have hltz : (k : Int) < (N.length : Int) := by omega
          have hs : s.size ≤ 9223372036854775807 := by have := hsz'.out s (List.mem_of_getElem? hx); omega
          clear hW
          cases hnm : nameB s
          · have HE := Lib.hid (netB_name (n := ⟨N, F⟩) hlt (by rw [nameAt_of hx, hnm]; rfl))
            clear hx
            go_wp2
            go_quiet ((first | (go_at_call 157; exact Calls.quiet_of_same (l2Name_q _ _ _ hs)) | (go_at_call 158; exact Calls.quiet_of_same (l2Find_q _ _ _ _ _ _ HI.out (by omega)))))
            go_wp2
            go_ret
            exact ⟨ret_bool HE.out.symm, fdrewN HW.out _⟩
          · by_cases hid : idxL N s = k
            · have HE := Lib.hid (okStepC HA.out (by rw [nameAt_of hx, hnm, hid]; simp))
              have hdq : (idxL N s == (k : Int)) = true := by simp [hid]
              clear hx hid
              go_wp2
              go_quiet ((first | (go_at_call 157; exact Calls.quiet_of_same (l2Name_q _ _ _ hs)) | (go_at_call 158; exact Calls.quiet_of_same (l2Find_q _ _ _ _ _ _ HI.out (by omega)))))
              go_wp2
              go_roundw
              case rel => exact ⟨k + 1, by omega, by go_num, HE.out, fdrewN HF.out _⟩
              case measure => simp [intOf]; omega
            · have HE := Lib.hid (netB_name (n := ⟨N, F⟩) hlt (by rw [nameAt_of hx, hnm]; simp [hid]))
              have hdq : (idxL N s == (k : Int)) = false := by simp [hid]
              clear hx hid
              go_wp2
              go_quiet ((first | (go_at_call 157; exact Calls.quiet_of_same (l2Name_q _ _ _ hs)) | (go_at_call 158; exact Calls.quiet_of_same (l2Find_q _ _ _ _ _ _ HI.out (by omega)))))
              go_wp2
              go_ret
              exact ⟨ret_bool HE.out.symm, fdrewN HW.out _⟩
        · have hkn : k = N.length := by omega
          have hltz : ¬ (k : Int) < (N.length : Int) := by omega
          clear hW
          go_wp2
          go_loopw [4] (fun i wr => ∃ k : Nat, k ≤ F.length ∧ i = .int .i64 k ∧ (∀ j, j < k → fibAt N.length F j = true) ∧ Fresh (w.alloc (.cells #[.slice q N.length c, .slice p F.length d] 32)) wr) (fun i _ => F.length - (intOf i).toNat)
          case atStart => exact ⟨0, Nat.zero_le _, rfl, fun j hj => by omega, HF.out⟩
          case round =>
            clear HF HW hb0 hb1
            obtain ⟨m, hm, rfl, hall, hf⟩ := hrel
            have HA2 := Lib.hid hall
            clear hall
            have hb0 := box hf 0 (v := .slice q N.length c) rfl
            have hb1 := box hf 1 (v := .slice p F.length d) rfl
            have hW : Fresh w wr := fstep (fnew (frefl _) _) hf
            have HF := Lib.hid hf
            have HW := Lib.hid hW
            clear hf
            by_cases hlm : m < F.length
            · have HS := Lib.hid (hF.keep hW)
              obtain ⟨b2, off2, x, y, z, u, rfl, hx, hc0, hc1, hc2, hc3⟩ := (hF.keep hW).at hlm
              have hlmz : (m : Int) < (F.length : Int) := by omega
              clear hW
              have i0 := fun xa : After wr => akeep hb0 xa
              have i1 := fun xa : After wr => akeep hb1 xa
              have j0 := fun xa : After wr => akeep hc0 xa
              have j1 := fun xa : After wr => akeep hc1 xa
              have j2 := fun xa : After wr => akeep hc2 xa
              have j3 := fun xa : After wr => akeep hc3 xa
              cases hfb : fibB N.length ⟨x, y, z, u⟩
              · have HE := Lib.hid (netB_fib (n := ⟨N, F⟩) hlm (fibAt_bad hx hfb))
                clear hx
                go_wp2
                refine wp_region_after (by kernel_rfl) (by kernel_rfl) ?_
                repeat (go_big_quiet_step ((go_at_call 159; exact after_call (l2Fiber_any ⟨x, y, z, u⟩ _ _ (by omega) (by omega)))))
                refine wpQuiet_nil ?_
                rintro _ ⟨xa, rfl⟩
                go_wp2
                go_ret
                exact ⟨ret_bool HE.out.symm, fstep HW.out xa.h⟩
              · by_cases h0 : 0 < m
                · obtain ⟨x', y', z', u', hp, e0, e1, e2, e3⟩ := Fibs.prev HS.out hlm h0
                  have hd0 : decide ((0 : Int) < (m : Int)) = true := decide_eq_true (by omega)
                  have hz1 : (m : Int) - 1 < (F.length : Int) := by omega
                  have hz2 : (m : Int) - 1 ≤ (F.length : Int) := by omega
                  have hz3 : 0 ≤ (m : Int) - 1 := by omega
                  have q1 := fib_ab hfb (by omega)
                  have q2 := fib_ab (fibAt_good hp (HA2.out (m - 1) (by omega))) (by omega)
                  have HBC : Hid (∀ w, Calls Try.prog 160 #[fibV ⟨x', y', z', u'⟩, fibV ⟨x, y, z, u⟩] w fun e w' => e = .returned (.int .i64 (before ⟨x', y', z', u'⟩ ⟨x, y, z, u⟩)) ∧ Fresh w w') :=
                    fun w => l2Before_any _ _ w q2.1 q2.2.1 q2.2.2.1 q2.2.2.2 q1.1 q1.2.1 q1.2.2.1 q1.2.2.2
                  clear q1 q2
                  have l0 := fun xa : After wr => akeep e0 xa
                  have l1 := fun xa : After wr => akeep e1 xa
                  have l2 := fun xa : After wr => akeep e2 xa
                  have l3 := fun xa : After wr => akeep e3 xa
                  cases hcm : fibAfter ⟨x', y', z', u'⟩ ⟨x, y, z, u⟩
                  · have hdb : decide (0 < before ⟨x', y', z', u'⟩ ⟨x, y, z, u⟩) = false := by rw [before_pos]; exact hcm
                    have HE := Lib.hid (okStepC HA2.out (by rw [fibAt_next hx hp h0, hfb, hcm]; rfl))
                    clear hx hp hcm
                    go_wp2
                    refine wp_region_after (by kernel_rfl) (by kernel_rfl) ?_
                    repeat (go_big_quiet_step ((first | (go_at_call 159; exact after_call (l2Fiber_any ⟨x, y, z, u⟩ _ _ (by omega) (by omega))) | (go_at_call 160; exact after_call (HBC.out _)))))
                    refine wpQuiet_nil ?_
                    rintro _ ⟨xa, rfl⟩
                    go_wp2
                    go_roundw
                    case rel => exact ⟨m + 1, by omega, by go_num, HE.out, fstep HF.out xa.h⟩
                    case measure => simp [intOf]; omega
                  · have hdb : decide (0 < before ⟨x', y', z', u'⟩ ⟨x, y, z, u⟩) = true := by rw [before_pos]; exact hcm
                    have HE := Lib.hid (netB_fib (n := ⟨N, F⟩) hlm (by show fibAt N.length F m = false; rw [fibAt_next hx hp h0, hfb, hcm]; rfl))
                    clear hx hp hcm
                    go_wp2
                    refine wp_region_after (by kernel_rfl) (by kernel_rfl) ?_
                    repeat (go_big_quiet_step ((first | (go_at_call 159; exact after_call (l2Fiber_any ⟨x, y, z, u⟩ _ _ (by omega) (by omega))) | (go_at_call 160; exact after_call (HBC.out _)))))
                    refine wpQuiet_nil ?_
                    rintro _ ⟨xa, rfl⟩
                    go_wp2
                    go_ret
                    exact ⟨ret_bool HE.out.symm, fstep HW.out xa.h⟩
                · have hd0 : decide ((0 : Int) < (m : Int)) = false := decide_eq_false (by omega)
                  have HE := Lib.hid (okStepC HA2.out (by rw [fibAt_first hx h0, hfb]))
                  clear hx
                  go_wp2
                  refine wp_region_after (by kernel_rfl) (by kernel_rfl) ?_
                  repeat (go_big_quiet_step ((go_at_call 159; exact after_call (l2Fiber_any ⟨x, y, z, u⟩ _ _ (by omega) (by omega)))))
                  refine wpQuiet_nil ?_
                  rintro _ ⟨xa, rfl⟩
                  go_wp2
                  go_roundw
                  case rel => exact ⟨m + 1, by omega, by go_num, HE.out, fstep HF.out xa.h⟩
                  case measure => simp [intOf]; omega
            · have hmn : m = F.length := by omega
              have hlmz : ¬ (m : Int) < (F.length : Int) := by omega
              have HE := Lib.hid (netB_end (n := ⟨N, F⟩) (by rw [← hkn]; exact HA.out) (by rw [← hmn]; exact HA2.out))
              clear hW
              go_wp2
              go_ret
              exact ⟨ret_bool (by rw [HE.out]; show true = (inB N.length 2 8 && decide (F.length ≤ 14)); rw [HI1.out, decide_eq_true h2]; rfl), HW.out⟩
    · have HE := Lib.hid (netB_many (n := ⟨N, F⟩) h2)
      have hd2 : decide (14 < (F.length : Int)) = true := decide_eq_true (by omega)
      go_enter Try.func108, Try.ntmps108
      go_wp2_with (go_at_call 143; refine (l1In_any _ _ _ _).mono ?_; rintro e w' ⟨rfl, rfl⟩)
      go_ret
      exact ⟨ret_bool HE.out.symm, fnew (frefl _) _⟩
end Go.Proofs.Ytjlhjkdmpngkbaa
