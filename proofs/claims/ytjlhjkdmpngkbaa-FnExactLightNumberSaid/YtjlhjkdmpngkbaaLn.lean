/- Contracts: the number of a light, both sides. -/
import Derived.Test.YtjlhjkdmpngkbaaPv3
namespace Go.Proofs.Ytjlhjkdmpngkbaa
open Go.RowKit Go.PlainAid

def findL (L : List LtV) (id : Int) : Int := idxP L fun x => x.1 == id
theorem idxP_map {α β : Type} (l : List α) (f : α → β) (g : β → Bool) : idxP (l.map f) g = idxP l fun x => g (f x) := by
  unfold idxP; rw [List.findIdx?_map]; rfl
theorem idxP_lo {α : Type} (l : List α) (g : α → Bool) : -1 ≤ idxP l g ∧ idxP l g ≤ l.length := by
  unfold idxP
  split
  · next k h => rw [List.findIdx?_eq_some_iff_getElem] at h; obtain ⟨h1, _⟩ := h; omega
  · omega
def lnumF (P : PlanV) (id : Int) : Int × Bool := if planB P = true ∧ 0 ≤ findL P.lights id then (findL P.lights id, true) else (0, false)

set_option maxHeartbeats 1000000 in
theorem lightClo_any (x : LL) (id : Int) (h : Nat) (w : World) (hc : w.cell? ⟨h, 0, none⟩ = some (.int .i64 id)) :
    Calls Try.prog 156 #[llV x, .pointer (some ⟨h, 0, none⟩)] w fun e w' => e = .returned (.bool (x.id == id)) ∧ Fresh w w' := by
  have hf : Fresh w (w.alloc (.cells #[iv x.id, iv x.r.start, .slice x.r.q x.r.fibs.length x.r.cap, iv x.f, iv x.c] 142)) := fnew (frefl _) _
  have hc1 := fkeep hf hc
  obtain ⟨bb, hbb⟩ : ∃ bb, bb = (x.id == id) := ⟨_, rfl⟩
  have hbb' := hbb.symm
  have HF := Lib.hid hf
  have HB := Lib.hid hbb
  clear hf hc hbb
  go_enter Try.func156, Try.ntmps156
  go_wp2
  go_ret
  exact ⟨by rw [← HB.out]; rfl, HF.out⟩

set_option maxHeartbeats 1000000 in
set_option maxRecDepth 100000 in
theorem lightAt_any (v : Value) (P : PlanV) (id : Int) (w : World) (h : PlIn w v P) : Calls Try.prog 107 #[v, .int .i64 id] w fun e w' => e = .returned (.int .i64 (findL P.lights id)) ∧ Fresh w w' := by
  obtain ⟨N, L⟩ := P
  obtain ⟨q, m, c, p, k0, d, r, e0, l, rfl, hN, hL, hs, hv, he1, he2⟩ := h
  simp only at hv ⊢
  have hmf : ∀ (fn : Fn) (first cap : Array Value) (w : World), (Instr.makeFunc fn first cap).run Try.prog w = .ok (.func fn first cap) w := fun _ _ _ _ => rfl
  have hn := hs.1
  obtain ⟨W2, hW2, hsz2, hf2, r1, r2⟩ := two_rows w [.slice q m c, .slice p k0 d, .slice r l.length e0] [.int .i64 id] 62 3
  have hc := r2.cell (i := 0) rfl
  have HF := Lib.hid hf2
  have HW2 := Lib.hid hW2
  have hci := ltIndex_any 156 r e0 l (fun x => x.id == id) #[.pointer (some ⟨w.heap.size + 1, 0, none⟩)] W2 (hL.keep hf2) hn (fun _ _ => rfl) (fun x _ w' hf' => lightClo_any x id _ w' (fkeep hf' hc))
  have HE : Hid (findL L id = idxP l fun x => x.id == id) := by show findL L id = _; rw [hv]; exact idxP_map l LL.val _
  rw [← HE.out] at hci
  have HC := Lib.hid hci
  clear hN hL hs hv hn hW2 hsz2 hf2 r1 r2 hc hci
  go_enter Try.func107, Try.ntmps107
  go_wp2_with fail
  rw [← HW2.out]
  refine HC.out.mono ?_
  rintro e w1 ⟨rfl, hb⟩
  have HB := Lib.hid (fstep HF.out hb)
  clear hb
  go_wp2
  go_ret
  exact ⟨rfl, HB.out⟩

set_option maxHeartbeats 2000000 in
theorem l9Find_any (v : Value) (P : PlanV) (id : Int) (w : World) (h : PlIn w v P) : Calls Try.prog 106 #[v, .int .i64 id] w fun e w' => e = .returned (.int .i64 (findL P.lights id)) ∧ Fresh w w' := by
  obtain ⟨N, L⟩ := P
  obtain ⟨q, m, c, p, k0, d, r, e0, l, rfl, hN, hL, hs, hv, he1, he2⟩ := h
  simp only at hv ⊢
  have hn := hs.1
  have hE : findL L id = idxP l fun x => x.id == id := by rw [hv]; exact idxP_map l LL.val _
  rw [hE]
  obtain ⟨W1, hW1⟩ : ∃ W1, W1 = w.alloc (.cells #[.slice q m c, .slice p k0 d, .slice r l.length e0] 62) := ⟨_, rfl⟩
  have hf : Fresh w W1 := by rw [hW1]; exact fnew (frefl _) _
  have c2 : W1.cell? ⟨w.heap.size, 2, none⟩ = some (.slice r l.length e0) := by rw [hW1]; exact (RowAt.new w 62 [.slice q m c, .slice p k0 d, .slice r l.length e0]).cell (i := 2) rfl
  have HF := Lib.hid hf
  have HL := Lib.hid (hL.keep hf)
  have HC := Lib.hid c2
  have HW := Lib.hid hW1
  clear hN hL hs hv hE hf c2 hW1
  go_enter Try.func106, Try.ntmps106
  go_wp2
  rw [← HW.out]
  clear HW
  have c2 := HC.out
  go_loop [5] (fun i => ∃ k : Nat, k ≤ l.length ∧ i = .int .i64 k ∧ ∀ j y, j < k → l[j]? = some y → (y.id == id) = false) (fun i => l.length - (intOf i).toNat)
  case atStart => exact ⟨0, Nat.zero_le _, rfl, fun j y hj => by omega⟩
  case round =>
    obtain ⟨k, hk, rfl, hall⟩ := hrel
    have HA := Lib.hid hall
    clear hall
    by_cases hlt : k < l.length
    · have hltz : (k : Int) < (l.length : Int) := by omega
      obtain ⟨b, off, x, hr, hx, _, _, hc0, _⟩ := HL.out.at hlt
      subst hr
      cases hq : x.id == id
      · have HN := Lib.hid (notP (f := fun y : LL => y.id == id) HA.out hx hq)
        clear hx
        go_wp2
        go_round
        case rel => exact ⟨k + 1, by omega, by go_num, HN.out⟩
        case measure => simp [intOf]; omega
      · have HE := Lib.hid (idxP_at (f := fun y : LL => y.id == id) HA.out hx hq)
        clear hx
        go_wp2
        go_ret
        exact ⟨ret_int HE.out.symm, HF.out⟩
    · have hkn : k = l.length := by omega
      have hltz : ¬ (k : Int) < (l.length : Int) := by omega
      have HE := Lib.hid (idxP_none (l := l) (f := fun y : LL => y.id == id) (by rw [← hkn]; exact HA.out))
      go_wp2
      go_ret
      exact ⟨ret_int HE.out.symm, HF.out⟩

set_option maxHeartbeats 1000000 in
theorem implLightNumber_any (v : Value) (P : PlanV) (id : Int) (w : World) (h : PlIn w v P) : Calls Try.prog 43 #[v, .int .i64 id] w fun e w' => e = .returned (.tuple #[.int .i64 (lnumF P id).1, .bool (lnumF P id).2]) ∧ Fresh w w' := by
  have HP := Lib.hid h
  obtain ⟨q, m, c, p, k, d, r, i, e0, rfl⟩ := h.shape
  clear h
  obtain ⟨W1, hW1⟩ : ∃ W1, W1 = w.alloc (.cells #[.slice q m c, .slice p k d, .slice r i e0] 62) := ⟨_, rfl⟩
  have HF1 : Hid (Fresh w W1) := by show Fresh w W1; rw [hW1]; exact fnew (frefl _) _
  have HR1 : Hid (RowAt W1 w.heap.size 62 [.slice q m c, .slice p k d, .slice r i e0]) := by show RowAt W1 _ _ _; rw [hW1]; exact RowAt.new w _ _
  have HW1 := Lib.hid hW1
  clear hW1
  obtain ⟨x, hx⟩ : ∃ x, x = findL P.lights id := ⟨_, rfl⟩
  have HX := Lib.hid hx
  clear hx
  go_enter Try.func43, Try.ntmps43
  go_wp2_with fail
  rw [← HW1.out]
  clear HW1
  refine (lightAt_any _ P id _ (HP.out.keep HF1.out)).mono ?_
  rintro e w1 ⟨rfl, hb⟩
  rw [← HX.out]
  have a0 := (HR1.out.keep hb).cell (i := 0) rfl
  have a1 := (HR1.out.keep hb).cell (i := 1) rfl
  have a2 := (HR1.out.keep hb).cell (i := 2) rfl
  have HF := Lib.hid (fstep HF1.out hb)
  clear hb
  go_wp2_with fail
  refine (implIsValidPlan_any _ P _ (HP.out.keep HF.out)).mono ?_
  rintro e w2 ⟨rfl, hb⟩
  have HF := Lib.hid (fstep HF.out hb)
  clear hb a0 a1 a2
  cases hg : planB P
  · have HE : Hid (lnumF P id = (0, false)) := by show lnumF P id = _; unfold lnumF; rw [if_neg (by simp [hg])]
    go_wp2
    go_ret2
    exact ⟨by rw [HE.out]; rfl, HF.out⟩
  · by_cases hx0 : x < 0
    · have hd : decide (x < 0) = true := decide_eq_true hx0
      have HE : Hid (lnumF P id = (0, false)) := by show lnumF P id = _; unfold lnumF; rw [if_neg]; rw [← HX.out]; omega
      go_wp2
      go_ret2
      exact ⟨by rw [HE.out]; rfl, HF.out⟩
    · have hd : decide (x < 0) = false := decide_eq_false hx0
      have HE : Hid (lnumF P id = (x, true)) := by show lnumF P id = _; unfold lnumF; rw [if_pos ⟨hg, by rw [← HX.out]; omega⟩, ← HX.out]
      go_wp2
      go_ret2
      exact ⟨by rw [HE.out]; rfl, HF.out⟩

set_option maxHeartbeats 1000000 in
theorem specLightNumber_any (v : Value) (P : PlanV) (id : Int) (w : World) (h : PlIn w v P) : Calls Try.prog 42 #[v, .int .i64 id] w fun e w' => e = .returned (.tuple #[.int .i64 (lnumF P id).1, .bool (lnumF P id).2]) ∧ Fresh w w' := by
  have HP := Lib.hid h
  obtain ⟨q, m, c, p, k, d, r, i, e0, rfl⟩ := h.shape
  clear h
  obtain ⟨W1, hW1⟩ : ∃ W1, W1 = w.alloc (.cells #[.slice q m c, .slice p k d, .slice r i e0] 62) := ⟨_, rfl⟩
  have HF1 : Hid (Fresh w W1) := by show Fresh w W1; rw [hW1]; exact fnew (frefl _) _
  have HR1 : Hid (RowAt W1 w.heap.size 62 [.slice q m c, .slice p k d, .slice r i e0]) := by show RowAt W1 _ _ _; rw [hW1]; exact RowAt.new w _ _
  have HW1 := Lib.hid hW1
  clear hW1
  obtain ⟨x, hx⟩ : ∃ x, x = findL P.lights id := ⟨_, rfl⟩
  have HX := Lib.hid hx
  clear hx
  go_enter Try.func42, Try.ntmps42
  go_wp2_with fail
  rw [← HW1.out]
  clear HW1
  refine (l9Good_any _ P _ (HP.out.keep HF1.out)).mono ?_
  rintro e w1 ⟨rfl, hb⟩
  have a0 := (HR1.out.keep hb).cell (i := 0) rfl
  have a1 := (HR1.out.keep hb).cell (i := 1) rfl
  have a2 := (HR1.out.keep hb).cell (i := 2) rfl
  have HF := Lib.hid (fstep HF1.out hb)
  clear hb
  cases hg : planB P
  · have HE : Hid (lnumF P id = (0, false)) := by show lnumF P id = _; unfold lnumF; rw [if_neg (by simp [hg])]
    go_wp2
    go_ret2
    exact ⟨by rw [HE.out]; rfl, HF.out⟩
  · go_wp2_with fail
    refine (l9Find_any _ P id _ (HP.out.keep HF.out)).mono ?_
    rintro e w2 ⟨rfl, hb⟩
    rw [← HX.out]
    replace a0 := fkeep hb a0
    replace a1 := fkeep hb a1
    replace a2 := fkeep hb a2
    have HF := Lib.hid (fstep HF.out hb)
    clear hb
    by_cases hx0 : x < 0
    · have hd : decide (x < 0) = true := decide_eq_true hx0
      have HE : Hid (lnumF P id = (0, false)) := by show lnumF P id = _; unfold lnumF; rw [if_neg]; rw [← HX.out]; omega
      go_wp2
      go_ret2
      exact ⟨by rw [HE.out]; rfl, HF.out⟩
    · have hd : decide (x < 0) = false := decide_eq_false hx0
      have HE : Hid (lnumF P id = (x, true)) := by show lnumF P id = _; unfold lnumF; rw [if_pos ⟨hg, by rw [← HX.out]; omega⟩, ← HX.out]
      go_wp2_with fail
      refine (l9Find_any _ P id _ (HP.out.keep HF.out)).mono ?_
      rintro e w2 ⟨rfl, hb⟩
      rw [← HX.out]
      have HF := Lib.hid (fstep HF.out hb)
      clear hb a0 a1 a2
      go_wp2
      go_ret2
      exact ⟨by rw [HE.out]; rfl, HF.out⟩
end Go.Proofs.Ytjlhjkdmpngkbaa
