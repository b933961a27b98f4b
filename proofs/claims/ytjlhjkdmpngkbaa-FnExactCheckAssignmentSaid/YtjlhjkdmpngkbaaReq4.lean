/- Contracts: valid requests, the program's side. -/
import Derived.Test.YtjlhjkdmpngkbaaReq3
import Derived.Test.YtjlhjkdmpngkbaaDem
namespace Go.Proofs.Ytjlhjkdmpngkbaa
open Go.RowKit Go.PlainAid

set_option maxHeartbeats 2000000 in
theorem reqClo_any (v : Value) (n : Net) (x : LQ) (h : Nat) (w : World) (hN : NetIn w v n) (ha : ∃ a b, v = .agg #[a, b] ∧ w.cell? ⟨h, 0, none⟩ = some a ∧ w.cell? ⟨h, 1, none⟩ = some b) (hI : Ints w x.r.q x.r.fibs) (hn : x.r.fibs.length ≤ 1048576) :
    Calls Try.prog 89 #[lqV x, .pointer (some ⟨h, 0, none⟩)] w fun e w' => e = .returned (.bool (!reqB n x.val)) ∧ Fresh w w' := by
  obtain ⟨a, b, rfl, hc0, hc1⟩ := ha
  obtain ⟨⟨s, q, cap, l⟩, ct⟩ := x
  simp only at hI hn ⊢
  have HN := Lib.hid hN
  have HI := Lib.hid hI
  clear hN hI
  obtain ⟨W1, hW1⟩ : ∃ W1, W1 = w.alloc (.cells #[.int .i64 s, .slice q l.length cap, .int .i64 ct] 128) := ⟨_, rfl⟩
  have hf : Fresh w W1 := by rw [hW1]; exact fnew (frefl _) _
  have hr : RowAt W1 w.heap.size 128 [.int .i64 s, .slice q l.length cap, .int .i64 ct] := by rw [hW1]; exact RowAt.new w _ _
  have hd0 := fkeep (fnew (frefl w) (.cells #[.int .i64 s, .slice q l.length cap, .int .i64 ct] 128)) hc0
  have hd1 := fkeep (fnew (frefl w) (.cells #[.int .i64 s, .slice q l.length cap, .int .i64 ct] 128)) hc1
  have HF := Lib.hid hf
  have HR := Lib.hid hr
  have HW1 := Lib.hid hW1
  clear hf hr hW1
  go_enter Try.func89, Try.ntmps89
  go_wp2_with fail
  rw [← HW1.out]
  refine (visited_any _ n s q cap l _ (HN.out.keep HF.out) (HI.out.keep HF.out) hn).mono ?_
  rintro e w1 ⟨p2, cap2, xs, rfl, hb, _⟩
  have k2 := (HR.out.keep hb).cell (i := 2) rfl
  have HB := Lib.hid (fstep HF.out hb)
  clear hb hd0 hd1
  cases hv : (visR n.nodes.length n.fibers s l).isSome
  · have HE : Hid ((!reqB n ((s, l), ct)) = true) := by show (!reqB n ((s, l), ct)) = true; simp [reqB, isVis, hv]
    go_wp2
    go_ret
    exact ⟨ret_bool HE.out.symm, HB.out⟩
  · cases hct : inB ct 1 24
    · have HE : Hid ((!reqB n ((s, l), ct)) = true) := by show (!reqB n ((s, l), ct)) = true; simp [reqB, hct]
      go_wp2_with (go_at_call 91; refine (within_any _ _ _ _).mono ?_; rintro e w' ⟨rfl, rfl⟩)
      go_ret
      exact ⟨ret_bool HE.out.symm, HB.out⟩
    · have HE : Hid ((!reqB n ((s, l), ct)) = false) := by show (!reqB n ((s, l), ct)) = false; simp [reqB, isVis, hct, hv]
      go_wp2_with (go_at_call 91; refine (within_any _ _ _ _).mono ?_; rintro e w' ⟨rfl, rfl⟩)
      go_ret
      exact ⟨ret_bool HE.out.symm, HB.out⟩

set_option maxHeartbeats 2000000 in
theorem reqIndex_any (p : Option Addr) (cap : Nat) (l : List LQ) (g : LQ → Bool) (cp : Array Value) (w : World) (hl : Reqs w p l) (hn : l.length ≤ 1048576)
    (hcl : ∀ x ∈ l, ∀ (w' : World), Fresh w w' → Calls Try.prog 89 (#[lqV x] ++ cp) w' fun e w'' => e = .returned (.bool (g x)) ∧ Fresh w' w'') :
    Calls Try.prog 144 #[.slice p l.length cap, .func (.func 89) #[] cp] w fun e w' => e = .returned (.int .i64 (idxP l g)) ∧ Fresh w w' := by
  have HC := Lib.hid hcl
  clear hcl
  go_enter Try.func144, Try.ntmps144
  go_wp2
  go_loopw [5, 8] (fun _ i wr => ∃ k : Nat, k ≤ l.length ∧ i = .int .i64 k ∧ (∀ j y, j < k → l[j]? = some y → g y = false) ∧ Fresh w wr) (fun _ i _ => l.length - (intOf i).toNat)
  case atStart => exact ⟨0, Nat.zero_le _, rfl, fun j y hj => by omega, frefl _⟩
  case round =>
    obtain ⟨k, hk, rfl, hall, hf⟩ := hrel
    have HA := Lib.hid hall
    clear hall
    have HF := Lib.hid hf
    by_cases hlt : k < l.length
    · obtain ⟨b, off, x, rfl, hx, hm, _, hc0, hc1, hc2⟩ := (hl.keep hf).at hlt
      have hltz : (k : Int) < (l.length : Int) := by omega
      have HM := Lib.hid hm
      clear hf hm
      cases hg : g x
      · have HE := Lib.hid (notP HA.out hx hg)
        clear hx
        go_wp2_with fail
        refine (HC.out x HM.out _ HF.out).mono ?_
        rintro e w1 ⟨rfl, hb⟩
        have HB := Lib.hid (fstep HF.out hb)
        clear hb
        go_wp2
        go_roundw
        case rel => exact ⟨k + 1, by omega, by go_num, HE.out, HB.out⟩
        case measure => simp [intOf]; omega
      · have HE := Lib.hid (idxP_at HA.out hx hg)
        clear hx
        go_wp2_with fail
        refine (HC.out x HM.out _ HF.out).mono ?_
        rintro e w1 ⟨rfl, hb⟩
        have HB := Lib.hid (fstep HF.out hb)
        clear hb
        go_wp2
        go_ret
        exact ⟨ret_int HE.out.symm, HB.out⟩
    · have hkn : k = l.length := by omega
      have hltz : ¬ (k : Int) < (l.length : Int) := by omega
      have HE := Lib.hid (idxP_none (l := l) (f := g) (by rw [← hkn]; exact HA.out))
      clear hf
      go_wp2
      go_ret
      exact ⟨ret_int HE.out.symm, HF.out⟩

set_option maxHeartbeats 1000000 in
theorem reqContains_any (p : Option Addr) (cap : Nat) (l : List LQ) (g : LQ → Bool) (cp : Array Value) (w : World) (hl : Reqs w p l) (hn : l.length ≤ 1048576)
    (hcl : ∀ x ∈ l, ∀ (w' : World), Fresh w w' → Calls Try.prog 89 (#[lqV x] ++ cp) w' fun e w'' => e = .returned (.bool (g x)) ∧ Fresh w' w'') :
    Calls Try.prog 88 #[.slice p l.length cap, .func (.func 89) #[] cp] w fun e w' => e = .returned (.bool (l.any g)) ∧ Fresh w w' := by
  have HI := Lib.hid (reqIndex_any p cap l g cp w hl hn hcl)
  have HE := Lib.hid (idxP_any l g)
  clear hcl hl
  go_enter Try.func88, Try.ntmps88
  go_wp2_with fail
  refine HI.out.mono ?_
  rintro e w1 ⟨rfl, hb⟩
  have HB := Lib.hid hb
  clear hb
  go_wp2
  go_ret
  exact ⟨ret_bool HE.out, HB.out⟩

set_option maxHeartbeats 2000000 in
theorem implIsValidRequests_any (v : Value) (n : Net) (p : Option Addr) (cap : Nat) (l : List LQ) (w : World) (h : NetIn w v n) (hl : Reqs w p l) (hs : ReqsSmall l) :
    Calls Try.prog 26 #[v, .slice p l.length cap] w fun e w' => e = .returned (.bool (reqsB n (l.map LQ.val))) ∧ Fresh w w' := by
  have HN := Lib.hid h
  have HL := Lib.hid hl
  have hn := hs.1
  have HSM := Lib.hid hs
  clear hl hs
  have hmf : ∀ (fn : Fn) (first cap : Array Value) (w : World), (Instr.makeFunc fn first cap).run Try.prog w = .ok (.func fn first cap) w := fun _ _ _ _ => rfl
  obtain ⟨q, c, p', d', hv, _⟩ := h
  subst hv
  have HW := Lib.hid (fnew (frefl w) (.cells #[.slice q n.nodes.length c, .slice p' n.fibers.length d'] 32))
  go_enter Try.func26, Try.ntmps26
  go_wp2_with fail
  refine (implIsValidNetwork_any _ n _ (HN.out.keep HW.out)).mono ?_
  rintro e w1 ⟨rfl, hb⟩
  have hb0 := box hb 0 (v := .slice q n.nodes.length c) rfl
  have hb1 := box hb 1 (v := .slice p' n.fibers.length d') rfl
  have HB := Lib.hid (fstep HW.out hb)
  clear hb
  cases hnet : netB n
  · have HE := Lib.hid (reqsB_net (l := l.map LQ.val) hnet)
    go_wp2
    go_ret
    exact ⟨ret_bool HE.out.symm, HB.out⟩
  · by_cases h7 : l.length ≤ 7
    · have hd : decide ((l.length : Int) ≤ 7) = true := decide_eq_true (by omega)
      have HE : Hid ((!l.any fun x => !reqB n x.val) = reqsB n (l.map LQ.val)) := by
        show (!l.any fun x => !reqB n x.val) = reqsB n (l.map LQ.val)
        rw [any_not l (fun x => reqB n x.val), reqsB_all hnet (by simpa using h7), List.all_map]; rfl
      go_wp2_with fail
      refine (reqContains_any p cap l (fun x => !reqB n x.val) #[.pointer (some ⟨w.heap.size, 0, none⟩)] _ (HL.out.keep HB.out) hn
        (fun x hx w' hf => reqClo_any _ n x w.heap.size w' ((HN.out.keep HB.out).keep hf) ⟨_, _, rfl, fkeep hf hb0, fkeep hf hb1⟩ ((HL.out.2 x hx).keep (fstep HB.out hf)) (HSM.out.2 x hx))).mono ?_
      rintro e w2 ⟨rfl, hb2⟩
      have HB2 := Lib.hid (fstep HB.out hb2)
      clear hb2
      go_wp2
      go_ret
      exact ⟨ret_bool HE.out, HB2.out⟩
    · have hd : decide ((l.length : Int) ≤ 7) = false := decide_eq_false (by omega)
      have HE := Lib.hid (reqsB_long (n := n) (l := l.map LQ.val) (by simpa using h7))
      go_wp2
      go_ret
      exact ⟨ret_bool HE.out.symm, HB.out⟩
end Go.Proofs.Ytjlhjkdmpngkbaa
