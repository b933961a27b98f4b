/- Contracts: a result that is a route (or two of them), compared, marked, asked again. -/
import Derived.Test.YtlcppdbpajdnlaaGreatPm2
import Derived.Test.YtlcppdbpajdnlaaGreatKLt
namespace Go.Proofs.YtlcppdbpajdnlaaGreat
open Go.RowKit Go.PlainAid

def SmRt (R : Int × List Int) : Prop := R.2.length ≤ 1048576
def RtOwn (w : World) (base : Nat) (v : Value) (R : Int × List Int) : Prop := ∃ q c, v = .agg #[.int .i64 R.1, .slice q R.2.length c] ∧ Own w base 3 q (R.2.map iv)
def RtHeld (w : World) (lo hi : Nat) (v : Value) (R : Int × List Int) : Prop := ∃ q c, v = .agg #[.int .i64 R.1, .slice q R.2.length c] ∧ Held w lo hi 3 q (R.2.map iv)
theorem RtOwn.shape {w : World} {base : Nat} {v : Value} {R : Int × List Int} (h : RtOwn w base v R) : ∃ s q m c, v = .agg #[.int .i64 s, .slice q m c] := by
  obtain ⟨q, c, rfl, _⟩ := h
  exact ⟨_, _, _, _, rfl⟩
theorem RtOwn.keep {w w' : World} {base : Nat} {v : Value} {R : Int × List Int} (h : RtOwn w base v R) (hb : Fresh w w') : RtOwn w' base v R := by
  obtain ⟨q, c, h1, h2⟩ := h
  exact ⟨q, c, h1, h2.keep hb⟩
theorem RtOwn.mono {w : World} {base base' : Nat} {v : Value} {R : Int × List Int} (h : RtOwn w base v R) (hb : base' ≤ base) : RtOwn w base' v R := by
  obtain ⟨q, c, h1, h2⟩ := h
  exact ⟨q, c, h1, h2.mono hb⟩
theorem RtOwn.held {w : World} {lo : Nat} {v : Value} {R : Int × List Int} (h : RtOwn w lo v R) : RtHeld w lo w.heap.size v R := by
  obtain ⟨q, c, h1, h2⟩ := h
  exact ⟨q, c, h1, h2.held⟩
theorem RtHeld.own {w : World} {lo hi : Nat} {v : Value} {R : Int × List Int} (h : RtHeld w lo hi v R) : RtOwn w lo v R := by
  obtain ⟨q, c, h1, h2⟩ := h
  exact ⟨q, c, h1, h2.1⟩
theorem RtHeld.keep {w w' : World} {lo hi : Nat} {v : Value} {R : Int × List Int} (h : RtHeld w lo hi v R) (hb : Fresh w w') : RtHeld w' lo hi v R := by
  obtain ⟨q, c, h1, h2⟩ := h
  exact ⟨q, c, h1, h2.keep hb⟩
theorem RtHeld.wide {w : World} {lo hi lo' hi' : Nat} {v : Value} {R : Int × List Int} (h : RtHeld w lo hi v R) (hl : lo' ≤ lo) (hh : hi ≤ hi') : RtHeld w lo' hi' v R := by
  obtain ⟨q, c, h1, h2⟩ := h
  exact ⟨q, c, h1, h2.wide hl hh⟩
theorem RtHeld.mk {T : TypeId → Prop} {lo hi lo' hi' : Nat} {w w' : World} {v : Value} {R : Int × List Int} (h : RtHeld w lo hi v R) (hb : Mk T lo' hi' w w') (hd : hi ≤ lo' ∨ hi' ≤ lo) : RtHeld w' lo hi v R := by
  obtain ⟨q, c, h1, h2⟩ := h
  exact ⟨q, c, h1, h2.mk hb hd⟩
theorem RtHeld.below {lo hi base : Nat} {w w' : World} {v : Value} {R : Int × List Int} (h : RtHeld w lo hi v R) (hb : Below base w w') (hd : hi ≤ base) : RtHeld w' lo hi v R := by
  obtain ⟨q, c, h1, h2⟩ := h
  exact ⟨q, c, h1, h2.below hb hd⟩
theorem RtOwn.rtIn {w : World} {base : Nat} {v : Value} {R : Int × List Int} (h : RtOwn w base v R) (hs : SmRt R) : RtIn w v R := by
  obtain ⟨q, c, h1, h2⟩ := h
  exact ⟨R.1, q, c, R.2, h1, h2.ints, hs, rfl⟩
theorem eqRt_r (v v' : Value) (lo hi lo' hi' : Nat) (R : Int × List Int) (w : World) (h : RtHeld w lo hi v R) (h' : RtHeld w lo' hi' v' R) (hs : SmRt R) :
    Calls Tryz.prog 26 #[v, v'] w fun e w' => e = .returned (.bool true) ∧ Fresh w w' := eqRoute_k v v' R w (h.own.rtIn hs) (h'.own.rtIn hs)
def RtMk (w : World) (base : Nat) (k0 : Int) (v : Value) (n : Nat) : Prop := ∃ s q c, v = .agg #[.int .i64 s, .slice q n c] ∧ MkRow w base 3 q n (fun t => iv (k0 + (t : Int)))
theorem RtMk.keep {w w' : World} {base : Nat} {k0 : Int} {v : Value} {n : Nat} (h : RtMk w base k0 v n) (hb : Fresh w w') : RtMk w' base k0 v n := by
  obtain ⟨s, q, c, h1, h2⟩ := h
  exact ⟨s, q, c, h1, h2.keep hb⟩
set_option maxHeartbeats 1000000 in
theorem markRoute_q (s : Int) (q : Option Addr) (cap n base : Nat) (k0 : Int) (w : World) (ho : RowN w base 3 q n) (hn : n ≤ 1048576) (h0 : 0 ≤ k0) (h1 : k0 ≤ 140737488355328) :
    Calls Tryz.prog 27 #[.agg #[.int .i64 s, .slice q n cap], .int .i64 k0] w fun e w' => e = .returned (.int .i64 (k0 + n)) ∧ MkRow w' base 3 q n (fun t => iv (k0 + (t : Int))) ∧ ∃ W1, Fresh w W1 ∧ QMk base q W1 w' := by
  obtain ⟨W1, hW1⟩ : ∃ W1, W1 = w.alloc (.cells #[.int .i64 s, .slice q n cap] 53) := ⟨_, rfl⟩
  have hf : Fresh w W1 := by rw [hW1]; exact fnew (frefl _) _
  have ho1 : RowN W1 base 3 q n := by
    rcases ho with h | ⟨g, cs, e1, e2, e3, e4⟩
    · exact Or.inl h
    · exact Or.inr ⟨g, cs, e1, e2, e3.keep hf, e4⟩
  have HW := Lib.hid hW1
  have HF := Lib.hid hf
  have HO := Lib.hid ho1
  clear hW1 hf ho ho1
  go_enter Tryz.func27, Tryz.ntmps27
  go_wp2_with fail
  rw [← HW.out]
  clear HW
  refine (markIntS_q q cap n base k0 _ HO.out (by omega) h0 (by omega)).mono ?_
  rintro e w1 ⟨rfl, hr, hb1⟩
  have HM := Lib.hid hb1
  have HR := Lib.hid hr
  clear hb1 hr
  go_wp2
  go_ret
  exact ⟨rfl, HR.out, W1, HF.out, HM.out⟩
set_option maxHeartbeats 1000000 in
theorem heldRoute_q (s : Int) (q : Option Addr) (cap n base : Nat) (k0 : Int) (w : World) (ho : MkRow w base 3 q n (fun t => iv (k0 + (t : Int)))) (hn : n ≤ 1048576) (h0 : 0 ≤ k0) (h1 : k0 ≤ 1099511627776) :
    Calls Tryz.prog 28 #[.agg #[.int .i64 s, .slice q n cap], .int .i64 k0] w fun e w' => e = .returned (.int .i64 (k0 + n)) ∧ Fresh w w' := by
  obtain ⟨W1, hW1⟩ : ∃ W1, W1 = w.alloc (.cells #[.int .i64 s, .slice q n cap] 53) := ⟨_, rfl⟩
  have hf : Fresh w W1 := by rw [hW1]; exact fnew (frefl _) _
  have HW := Lib.hid hW1
  have HF := Lib.hid hf
  have HO := Lib.hid (ho.keep hf).ints
  clear hW1 hf ho
  go_enter Tryz.func28, Tryz.ntmps28
  go_wp2_with fail
  rw [← HW.out]
  clear HW
  refine (heldIntS_any q cap n k0 _ HO.out (by omega) h0 (by omega)).mono ?_
  rintro e w1 ⟨rfl, rfl⟩
  have hkn : ¬ (k0 + (n : Int) < 0) := by omega
  go_wp2
  go_ret
  exact ⟨rfl, HF.out⟩
theorem QMk.own {base base' : Nat} {q q' : Option Addr} {cs : List Value} {w w' : World} (h : QMk base q w w') (hr : Own w base' 3 q' cs) (hd : ∀ g o h o', q = some ⟨g, o, none⟩ → q' = some ⟨h, o', none⟩ → g ≠ h) : Own w' base' 3 q' cs := by
  rcases h with rfl | ⟨b, hq, _, hb⟩
  · exact hr
  · rcases hr with hr | ⟨g, sp, h1, h2, h3⟩
    · exact Or.inl hr
    · exact Or.inr ⟨g, sp, h1, h2, hb.other h3 (fun e => (hd b 0 g 0 hq h1) e.symm)⟩
theorem markRt_r (v : Value) (base : Nat) (R : Int × List Int) (k0 : Int) (w : World) (h : RtOwn w base v R) (hbs : base ≤ w.heap.size) (hs : SmRt R) (h0 : 0 ≤ k0) (h1 : k0 ≤ 1099511627776) :
    Calls Tryz.prog 27 #[v, .int .i64 k0] w fun e w' => e = .returned (.int .i64 (k0 + (R.2.length : Int))) ∧ RtMk w' base k0 v R.2.length ∧ Below base w w' ∧ ∀ g t cs, RowAt w g t cs → t ≠ 3 → RowAt w' g t cs := by
  obtain ⟨q, c, rfl, ho⟩ := h
  have hl : RowN w base 3 q R.2.length := by have := ho.rowN; rwa [List.length_map] at this
  refine (markRoute_q R.1 q c R.2.length base k0 w hl hs h0 (by omega)).mono ?_
  rintro e w' ⟨rfl, h2, W1, h3, h4⟩
  exact ⟨rfl, ⟨R.1, q, c, rfl, h2⟩, (h3.mono hbs).trans h4.below, fun g t cs hr ht => h4.row (hr.keep h3) ht⟩
theorem heldRt_o (v : Value) (base : Nat) (R : Int × List Int) (k0 : Int) (w : World) (h : RtMk w base k0 v R.2.length) (hs : SmRt R) (h0 : 0 ≤ k0) (h1 : k0 ≤ 1099511627776) :
    Calls Tryz.prog 28 #[v, .int .i64 k0] w fun e w' => e = .returned (.int .i64 (k0 + (R.2.length : Int))) ∧ Fresh w w' := by
  obtain ⟨s, q, c, rfl, h2⟩ := h
  exact heldRoute_q s q c R.2.length base k0 w h2 hs h0 (by omega)
/-- Two routes whose fibers lie in rows of their own. -/
def RtApart (v u : Value) : Prop := ∀ a q n c a' q' n' c', v = .agg #[a, .slice q n c] → u = .agg #[a', .slice q' n' c'] → ∀ g o h o', q = some ⟨g, o, none⟩ → q' = some ⟨h, o', none⟩ → g ≠ h
theorem markRt_a (v u : Value) (base : Nat) (R S : Int × List Int) (k0 : Int) (w : World) (h : RtOwn w base v R) (h' : RtOwn w base u S) (ha : RtApart v u) (hbs : base ≤ w.heap.size) (hs : SmRt R) (h0 : 0 ≤ k0) (h1 : k0 ≤ 1099511627776) :
    Calls Tryz.prog 27 #[v, .int .i64 k0] w fun e w' => e = .returned (.int .i64 (k0 + (R.2.length : Int))) ∧ RtMk w' base k0 v R.2.length ∧ RtOwn w' base u S ∧ Below base w w' ∧ ∀ g t cs, RowAt w g t cs → t ≠ 3 → RowAt w' g t cs := by
  obtain ⟨q, c, rfl, ho⟩ := h
  obtain ⟨q', c', rfl, ho'⟩ := h'
  have hl : RowN w base 3 q R.2.length := by have := ho.rowN; rwa [List.length_map] at this
  refine (markRoute_q R.1 q c R.2.length base k0 w hl hs h0 (by omega)).mono ?_
  rintro e w' ⟨rfl, h2, W1, h3, h4⟩
  exact ⟨rfl, ⟨R.1, q, c, rfl, h2⟩, ⟨q', c', rfl, h4.own (ho'.keep h3) (ha _ _ _ _ _ _ _ _ rfl rfl)⟩, (h3.mono hbs).trans h4.below, fun g t cs hr ht => h4.row (hr.keep h3) ht⟩
theorem markRt_b (v u : Value) (base n : Nat) (S : Int × List Int) (k1 k0 : Int) (w : World) (h : RtMk w base k1 v n) (h' : RtOwn w base u S) (ha : RtApart v u) (hbs : base ≤ w.heap.size) (hs : SmRt S) (h0 : 0 ≤ k0) (h1 : k0 ≤ 1099511627776) :
    Calls Tryz.prog 27 #[u, .int .i64 k0] w fun e w' => e = .returned (.int .i64 (k0 + (S.2.length : Int))) ∧ RtMk w' base k1 v n ∧ RtMk w' base k0 u S.2.length ∧ Below base w w' ∧ ∀ g t cs, RowAt w g t cs → t ≠ 3 → RowAt w' g t cs := by
  obtain ⟨s, q, c, rfl, hv⟩ := h
  obtain ⟨q', c', rfl, ho'⟩ := h'
  have hl : RowN w base 3 q' S.2.length := by have := ho'.rowN; rwa [List.length_map] at this
  refine (markRoute_q S.1 q' c' S.2.length base k0 w hl hs h0 (by omega)).mono ?_
  rintro e w' ⟨rfl, h2, W1, h3, h4⟩
  exact ⟨rfl, ⟨s, q, c, rfl, h4.mkRow (hv.keep h3) (fun g o h o' e e' => (ha _ _ _ _ _ _ _ _ rfl rfl h o' g o e' e).symm)⟩, ⟨S.1, q', c', rfl, h2⟩, (h3.mono hbs).trans h4.below, fun g t cs hr ht => h4.row (hr.keep h3) ht⟩
/-- A route of the call's own, as an argument. -/
def RtMine (w : World) (lo hi : Nat) (v : Value) : Prop := ∃ s q n c, v = .agg #[.int .i64 s, .slice q n c] ∧ OwnIn w lo hi 3 q n ∧ n ≤ 1048576
theorem RtMine.keep {w w' : World} {lo hi : Nat} {v : Value} (h : RtMine w lo hi v) (hb : Fresh w w') : RtMine w' lo hi v := by
  obtain ⟨s, q, n, c, h1, h2, h3⟩ := h
  exact ⟨s, q, n, c, h1, h2.keep hb, h3⟩
theorem RtMine.mk {T : TypeId → Prop} {lo' hi' : Nat} {w w' : World} {lo hi : Nat} {v : Value} (_ : True) (h : RtMine w lo hi v) (hb : Mk T lo' hi' w w') : RtMine w' lo hi v := by
  obtain ⟨s, q, n, c, h1, h2, h3⟩ := h
  exact ⟨s, q, n, c, h1, h2.mk hb, h3⟩
theorem markRoute_k (v : Value) (lo hi : Nat) (k0 : Int) (w : World) (h : RtMine w lo hi v) (hlo : lo ≤ w.heap.size) (_ : hi ≤ w.heap.size) (h0 : 0 ≤ k0) (h1 : k0 ≤ 281474976710656) :
    Calls Tryz.prog 27 #[v, .int .i64 k0] w fun e w' => ∃ k1, e = .returned (.int .i64 k1) ∧ k0 ≤ k1 ∧ k1 ≤ k0 + 17592186044416 ∧ Mk (fun t => t = 3) lo hi w w' := by
  obtain ⟨s, q, n, c, rfl, ho, hn⟩ := h
  refine (markRoute_m s q c n lo hi k0 w ho hlo hn h0 h1).mono ?_
  rintro e w' ⟨rfl, hb⟩
  exact ⟨_, rfl, by omega, by omega, hb⟩
end Go.Proofs.YtlcppdbpajdnlaaGreat
