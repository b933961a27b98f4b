/- Contracts: two lists of fibers of which no two fail with each other, both sides. -/
import Derived.Test.YtlapicgeokjpjaaGr
import Derived.Test.YtlapicgeokjpjaaU4
namespace Go.Proofs.Ytlapicgeokjpjaa
open Go.RowKit Go.PlainAid

theorem keepc2 {w w1 w2 : World} {b0 o0 b1 o1 : Nat} {v0 v1 : Value} (h : Fresh w w1 ∧ w1.cell? ⟨b0, o0, none⟩ = some v0 ∧ w1.cell? ⟨b1, o1, none⟩ = some v1) (hb : Fresh w1 w2) : Fresh w w2 ∧ w2.cell? ⟨b0, o0, none⟩ = some v0 ∧ w2.cell? ⟨b1, o1, none⟩ = some v1 :=
  ⟨fstep h.1 hb, fkeep hb h.2.1, fkeep hb h.2.2⟩
theorem keepc3 {w w1 w2 : World} {b0 o0 b1 o1 b2 o2 : Nat} {v0 v1 v2 : Value} (h : Fresh w w1 ∧ w1.cell? ⟨b0, o0, none⟩ = some v0 ∧ w1.cell? ⟨b1, o1, none⟩ = some v1 ∧ w1.cell? ⟨b2, o2, none⟩ = some v2) (hb : Fresh w1 w2) : Fresh w w2 ∧ w2.cell? ⟨b0, o0, none⟩ = some v0 ∧ w2.cell? ⟨b1, o1, none⟩ = some v1 ∧ w2.cell? ⟨b2, o2, none⟩ = some v2 :=
  ⟨fstep h.1 hb, fkeep hb h.2.1, fkeep hb h.2.2.1, fkeep hb h.2.2.2⟩
set_option maxHeartbeats 1000000 in
theorem iroIndex_any (cl : FuncId) (p : Option Addr) (cap : Nat) (l : List LI) (g : LI → Bool) (cp : Array Value) (w : World) (hl : IRows w p l) (hn : l.length ≤ 1048576) (eg : ∀ args w, (callFunc cl args).run Try.prog w = .ok (.enter cl args) w)
    (hcl : ∀ x ∈ l, ∀ (w' : World), Fresh w w' → Calls Try.prog cl (#[liV x] ++ cp) w' fun e w'' => e = .returned (.bool (g x)) ∧ Fresh w' w'') :
    Calls Try.prog 64 #[.slice p l.length cap, .func (.func cl) #[] cp] w fun e w' => e = .returned (.int .i64 (idxP l g)) ∧ Fresh w w' := by
  have HC := Lib.hid hcl
  have HL := Lib.hid hl
  clear hcl hl
  go_enter Try.func64, Try.ntmps64
  go_wp2
  go_loopw [5, 8] (fun _ i wr => ∃ k : Nat, k ≤ l.length ∧ i = .int .i64 k ∧ (∀ j y, j < k → l[j]? = some y → g y = false) ∧ Fresh w wr) (fun _ i _ => l.length - (intOf i).toNat)
  case atStart => exact ⟨0, Nat.zero_le _, rfl, fun j y hj => by omega, frefl _⟩
  case round =>
    obtain ⟨k, hk, rfl, hall, hf⟩ := hrel
    have HA := Lib.hid hall
    clear hall
    have HF := Lib.hid hf
    by_cases hlt : k < l.length
    · obtain ⟨b, off, x, rfl, hx, hmem, _, hc0⟩ := (HL.out.keep hf).at hlt
      have hltz : (k : Int) < (l.length : Int) := by omega
      have HM := Lib.hid hmem
      clear hf hmem
      cases hg : g x
      · have HE := Lib.hid (notP HA.out hx hg)
        have HG := Lib.hid hg
        clear hx hg
        go_wp2_with fail
        refine (HC.out x HM.out _ HF.out).mono ?_
        rintro e w1 ⟨rfl, hb⟩
        have HB := Lib.hid (fstep HF.out hb)
        clear hb
        rw [HG.out]
        go_wp2
        go_roundw
        case rel => exact ⟨k + 1, by omega, by go_num, HE.out, HB.out⟩
        case measure => simp [intOf]; omega
      · have HE := Lib.hid (idxP_at HA.out hx hg)
        have HG := Lib.hid hg
        clear hx hg
        go_wp2_with fail
        refine (HC.out x HM.out _ HF.out).mono ?_
        rintro e w1 ⟨rfl, hb⟩
        have HB := Lib.hid (fstep HF.out hb)
        clear hb
        rw [HG.out]
        go_wp2
        go_ret
        exact ⟨ret_int HE.out.symm, HB.out⟩
    · have hkn : k = l.length := by omega
      have hltz : ¬ (k : Int) < (l.length : Int) := by omega
      have HE := Lib.hid (idxP_none (l := l) (f := g) (by rw [← hkn]; exact HA.out))
      clear hf
      go_wp2
      go_ret
      exact ⟨ret_int HE.out.symm, HF.out⟩
set_option maxHeartbeats 400000 in
theorem groupClo_any (x : LI) (i : Int) (h : Nat) (w : World) (hI : Ints w x.q x.xs) (hn : x.xs.length ≤ 1048576) (hc : w.cell? ⟨h, 0, none⟩ = some (.int .i64 i)) :
    Calls Try.prog 66 #[liV x, .pointer (some ⟨h, 0, none⟩)] w fun e w' => e = .returned (.bool (decide (i ∈ x.xs))) ∧ Fresh w w' := by
  go_enter Try.func66, Try.ntmps66
  go_wp2_with fail
  refine (containsI_any x.q x.cap x.xs i w hI (by omega)).mono ?_
  rintro e w1 ⟨rfl, rfl⟩
  go_wp2
  go_ret
  exact ⟨rfl, frefl _⟩
theorem group_len {F : List Fib} {g : List Int} (hg : g ∈ groupsL F) (h14 : F.length ≤ 14) : g.length ≤ 14 := by
  unfold groupsL at hg
  rw [List.mem_append, grpTo_mem, zerTo_mem] at hg
  rcases hg with ⟨r, hr, rfl, _⟩ | ⟨k, hk, hz, rfl⟩
  · exact Nat.le_trans (ofRisk_len _ _ _) h14
  · simp
theorem groupsL_len (F : List Fib) : (groupsL F).length ≤ 9 + F.length := by
  unfold groupsL
  rw [List.length_append]
  have h1 := grpTo_len F 9
  have h2 := zerTo_len F F.length
  omega
theorem idx_val {l : List LI} {L : List (List Int)} (h : l.map LI.xs = L) (f : List Int → Bool) : idxP l (fun x => f x.xs) = idxP L f := by
  subst h
  unfold idxP
  rw [List.findIdx?_map]
  rfl
set_option maxHeartbeats 1000000 in
set_option maxRecDepth 100000 in
theorem groupOf_any (v : Value) (n : Net) (i : Int) (w : World) (h : NetIn w v n) (h14 : n.fibers.length ≤ 14) :
    Calls Try.prog 47 #[v, .int .i64 i] w fun e w' => e = .returned (.int .i64 (gIdx n.fibers i)) ∧ Fresh w w' := by
  have HN := Lib.hid h
  obtain ⟨q, m, c, p, k, d, hv⟩ := h.shape
  subst hv
  clear h
  obtain ⟨W2, hW2, hsz2, hf2, r1, r2⟩ := two_rows w [.slice q m c, .slice p k d] [.int .i64 i] 27 3
  have HR1 := Lib.hid r1
  have HR2 := Lib.hid r2
  have HF2 := Lib.hid hf2
  have HW2 := Lib.hid hW2
  have e0 := r1.cell (i := 0) rfl
  have e1 := r1.cell (i := 1) rfl
  clear r1 r2 hf2 hW2 hsz2
  go_enter Try.func47, Try.ntmps47
  go_wp2_with fail
  rw [← HW2.out]
  refine (groups_any _ n _ (HN.out.keep HF2.out) h14).mono ?_
  rintro e w1 ⟨pg, cg, l, rfl, hval, ho, hos, hb⟩
  have HV := Lib.hid hval
  have HRS : Hid (IRows w1 pg l) := ⟨ho.cells, fun x hx => (hos x hx).cells⟩
  have HB := Lib.hid (HR2.out.keep hb)
  have HFF := Lib.hid (fstep HF2.out hb)
  have hln : l.length ≤ 9 + n.fibers.length := by
    have := congrArg List.length hval
    rw [List.length_map] at this
    rw [this]; exact groupsL_len _
  have HXL : Hid (∀ x ∈ l, x.xs.length ≤ 1048576) := by
    intro x hx
    have := group_len (g := x.xs) (F := n.fibers) (by rw [← hval]; exact List.mem_map_of_mem hx) h14
    omega
  clear hval ho hos hb e0 e1
  have hmf : ∀ (fn : Fn) (first cap : Array Value) (w : World), (Instr.makeFunc fn first cap).run Try.prog w = .ok (.func fn first cap) w := fun _ _ _ _ => rfl
  go_wp2_with fail
  refine (iroIndex_any 66 pg cg l (fun x => decide (i ∈ x.xs)) #[.pointer (some ⟨w.heap.size + 1, 0, none⟩)] _ HRS.out (by omega) (fun args w => by rfl) (fun x hx w' hf => groupClo_any x i _ w' ((HRS.out.keep hf).2 x hx) (HXL.out x hx) ((HB.out.keep hf).cell (i := 0) rfl))).mono ?_
  rintro e w2 ⟨rfl, hb⟩
  have HF3 := Lib.hid (fstep HFF.out hb)
  clear hb
  go_wp2
  go_ret
  exact ⟨ret_int (idx_val HV.out fun g => decide (i ∈ g)), HF3.out⟩
end Go.Proofs.Ytlapicgeokjpjaa
