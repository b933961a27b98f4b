/- Contracts: valid plans, the program's side. -/
import Derived.Test.YtjlhjkdmpngkbaaPv
import Derived.Test.YtjlhjkdmpngkbaaDem
namespace Go.Proofs.Ytjlhjkdmpngkbaa
open Go.RowKit Go.PlainAid

theorem Lts.take {w : World} {p : Option Addr} {l : List LL} (h : Lts w p l) (k : Nat) : Lts w p (l.take k) := by
  refine ⟨?_, fun x hx => h.2 x (List.mem_of_mem_take hx)⟩
  rcases h.1 with h1 | ⟨b, off, rfl, hc⟩
  · left
    rw [List.flatMap_eq_nil_iff] at h1 ⊢
    exact fun x hx => h1 x (List.mem_of_mem_take hx)
  · right
    refine ⟨b, off, rfl, fun i v hv => hc i v ?_⟩
    have e : l.flatMap llC = (l.take k).flatMap llC ++ (l.drop k).flatMap llC := by rw [← List.flatMap_append, List.take_append_drop]
    rw [e, List.getElem?_append_left]
    · exact hv
    · rcases Nat.lt_or_ge i ((l.take k).flatMap llC).length with h' | h'
      · exact h'
      · rw [List.getElem?_eq_none h'] at hv; cases hv

set_option maxHeartbeats 2000000 in
theorem ltIndex_any (cl : FuncId) (p : Option Addr) (cap : Nat) (l : List LL) (g : LL → Bool) (cp : Array Value) (w : World) (hl : Lts w p l) (hn : l.length ≤ 1048576) (eg : ∀ args w, (callFunc cl args).run Try.prog w = .ok (.enter cl args) w)
    (hcl : ∀ x ∈ l, ∀ (w' : World), Fresh w w' → Calls Try.prog cl (#[llV x] ++ cp) w' fun e w'' => e = .returned (.bool (g x)) ∧ Fresh w' w'') :
    Calls Try.prog 152 #[.slice p l.length cap, .func (.func cl) #[] cp] w fun e w' => e = .returned (.int .i64 (idxP l g)) ∧ Fresh w w' := by
  have HC := Lib.hid hcl
  clear hcl
  go_enter Try.func152, Try.ntmps152
  go_wp2
  go_loopw [5, 8] (fun _ i wr => ∃ k : Nat, k ≤ l.length ∧ i = .int .i64 k ∧ (∀ j y, j < k → l[j]? = some y → g y = false) ∧ Fresh w wr) (fun _ i _ => l.length - (intOf i).toNat)
  case atStart => exact ⟨0, Nat.zero_le _, rfl, fun j y hj => by omega, frefl _⟩
  case round =>
    obtain ⟨k, hk, rfl, hall, hf⟩ := hrel
    have HA := Lib.hid hall
    clear hall
    have HF := Lib.hid hf
    by_cases hlt : k < l.length
    · obtain ⟨b, off, x, rfl, hx, hm, _, hc0, hc1, hc2, hc3, hc4⟩ := (hl.keep hf).at hlt
      have hltz : (k : Int) < (l.length : Int) := by omega
      have HM := Lib.hid hm
      clear hf hm
      cases hg : g x
      · have HE := Lib.hid (notP HA.out hx hg)
        clear hx
        go_wp2_with fail
        refine (HC.out x HM.out _ HF.out).mono ?_
        rintro e w1 ⟨rfl, hb⟩
        have HB := Lib.hid (fstep HF.out hb)
        clear hb
        go_wp2
        go_roundw
        case rel => exact ⟨k + 1, by omega, by go_num, HE.out, HB.out⟩
        case measure => simp [intOf]; omega
      · have HE := Lib.hid (idxP_at HA.out hx hg)
        clear hx
        go_wp2_with fail
        refine (HC.out x HM.out _ HF.out).mono ?_
        rintro e w1 ⟨rfl, hb⟩
        have HB := Lib.hid (fstep HF.out hb)
        clear hb
        go_wp2
        go_ret
        exact ⟨ret_int HE.out.symm, HB.out⟩
    · have hkn : k = l.length := by omega
      have hltz : ¬ (k : Int) < (l.length : Int) := by omega
      have HE := Lib.hid (idxP_none (l := l) (f := g) (by rw [← hkn]; exact HA.out))
      clear hf
      go_wp2
      go_ret
      exact ⟨ret_int HE.out.symm, HF.out⟩

set_option maxHeartbeats 1000000 in
theorem ltContains_any (cl : FuncId) (p : Option Addr) (cap : Nat) (l : List LL) (g : LL → Bool) (cp : Array Value) (w : World) (hl : Lts w p l) (hn : l.length ≤ 1048576) (eg : ∀ args w, (callFunc cl args).run Try.prog w = .ok (.enter cl args) w)
    (hcl : ∀ x ∈ l, ∀ (w' : World), Fresh w w' → Calls Try.prog cl (#[llV x] ++ cp) w' fun e w'' => e = .returned (.bool (g x)) ∧ Fresh w' w'') :
    Calls Try.prog 102 #[.slice p l.length cap, .func (.func cl) #[] cp] w fun e w' => e = .returned (.bool (l.any g)) ∧ Fresh w w' := by
  have HI := Lib.hid (ltIndex_any cl p cap l g cp w hl hn eg hcl)
  have HE := Lib.hid (idxP_any l g)
  clear hcl hl
  go_enter Try.func102, Try.ntmps102
  go_wp2_with fail
  refine HI.out.mono ?_
  rintro e w1 ⟨rfl, hb⟩
  have HB := Lib.hid hb
  clear hb
  go_wp2
  go_ret
  exact ⟨ret_bool HE.out, HB.out⟩

set_option maxHeartbeats 1000000 in
theorem ltClo_any (y x : LL) (h : Nat) (w : World) (hy : goodB y.f y.c = true) (hx : goodB x.f x.c = true) (hJ : Ints w y.r.q y.r.fibs) (hI : Ints w x.r.q x.r.fibs) (hn : y.r.fibs.length ≤ 1048576) (hm : x.r.fibs.length ≤ 1048576)
    (hrow : RowAt w h 142 (llC x)) :
    Calls Try.prog 103 #[llV y, .pointer (some ⟨h, 0, none⟩)] w fun e w' => e = .returned (.bool (colB y.val x.val)) ∧ Fresh w w' := by
  have HC := Lib.hid (fun w' (hf : Fresh w w') => collide_any y x w' hy hx (hJ.keep hf) (hI.keep hf) hn hm)
  obtain ⟨W1, hW1⟩ : ∃ W1, W1 = w.alloc (.cells #[iv y.id, iv y.r.start, .slice y.r.q y.r.fibs.length y.r.cap, iv y.f, iv y.c] 142) := ⟨_, rfl⟩
  have hf : Fresh w W1 := by rw [hW1]; exact fnew (frefl _) _
  have hr := hrow.keep hf
  have c0 := hr.cell (i := 0) rfl
  have c1 := hr.cell (i := 1) rfl
  have c2 := hr.cell (i := 2) rfl
  have c3 := hr.cell (i := 3) rfl
  have c4 := hr.cell (i := 4) rfl
  rw [hW1] at c0 c1 c2 c3 c4
  have HF := Lib.hid hf
  have HW := Lib.hid hW1
  clear hf hr hrow hW1 hy hx hJ hI
  go_enter Try.func103, Try.ntmps103
  go_wp2_with fail
  rw [← HW.out]
  refine (HC.out _ HF.out).mono ?_
  rintro e w1 ⟨rfl, hb⟩
  have HB := Lib.hid (fstep HF.out hb)
  clear hb c0 c1 c2 c3 c4
  go_wp2
  go_ret
  exact ⟨rfl, HB.out⟩
end Go.Proofs.Ytjlhjkdmpngkbaa
