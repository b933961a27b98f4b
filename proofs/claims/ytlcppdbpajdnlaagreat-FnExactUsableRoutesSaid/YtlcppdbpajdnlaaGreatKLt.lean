/- One light as an argument: weighed, copied, compared, marked. -/
import Derived.Test.YtlcppdbpajdnlaaGreatMl
namespace Go.Proofs.YtlcppdbpajdnlaaGreat
open Go.RowKit Go.PlainAid

def LgRaw (w : World) (v : Value) (X : LtV) : Prop := ∃ x : LL, v = llV x ∧ Ints w x.r.q x.r.fibs ∧ x.r.fibs.length ≤ 9223372036854775807 ∧ X = x.val
def LgSmall (X : LtV) : Prop := X.2.1.2.length ≤ 1048576
def LgIn (w : World) (v : Value) (X : LtV) : Prop := ∃ x : LL, v = llV x ∧ Ints w x.r.q x.r.fibs ∧ x.r.fibs.length ≤ 1048576 ∧ X = x.val
theorem LgRaw.keep {w w' : World} {v : Value} {X : LtV} (h : LgRaw w v X) (hb : Fresh w w') : LgRaw w' v X := by
  obtain ⟨x, h1, h2, r⟩ := h
  exact ⟨x, h1, h2.keep hb, r⟩
theorem LgIn.keep {w w' : World} {v : Value} {X : LtV} (h : LgIn w v X) (hb : Fresh w w') : LgIn w' v X := by
  obtain ⟨x, h1, h2, r⟩ := h
  exact ⟨x, h1, h2.keep hb, r⟩
theorem LgRaw.small {w : World} {v : Value} {X : LtV} (h : LgRaw w v X) (hs : LgSmall X) : LgIn w v X := by
  obtain ⟨x, h1, h2, h3, rfl⟩ := h
  exact ⟨x, h1, h2, hs, rfl⟩
theorem LgRaw.shape {w : World} {v : Value} {X : LtV} (h : LgRaw w v X) : ∃ i s q m c b d, v = .agg #[.int .i64 i, .int .i64 s, .slice q m c, .int .i64 b, .int .i64 d] := by
  obtain ⟨x, h1, _⟩ := h
  exact ⟨_, _, _, _, _, _, _, h1⟩
theorem LgIn.shape {w : World} {v : Value} {X : LtV} (h : LgIn w v X) : ∃ i s q m c b d, v = .agg #[.int .i64 i, .int .i64 s, .slice q m c, .int .i64 b, .int .i64 d] := by
  obtain ⟨x, h1, _⟩ := h
  exact ⟨_, _, _, _, _, _, _, h1⟩
/-- One light of the argument's own. -/
def LgMine (w : World) (lo hi : Nat) (v : Value) : Prop := ∃ x : LL, v = llV x ∧ OwnIn w lo hi 3 x.r.q x.r.fibs.length ∧ x.r.fibs.length ≤ 1048576
theorem LgMine.keep {w w' : World} {lo hi : Nat} {v : Value} (h : LgMine w lo hi v) (hb : Fresh w w') : LgMine w' lo hi v := by
  obtain ⟨x, h1, h2, r⟩ := h
  exact ⟨x, h1, h2.keep hb, r⟩
theorem LgMine.mk {T : TypeId → Prop} {lo' hi' : Nat} {w w' : World} {lo hi : Nat} {v : Value} (_ : True) (h : LgMine w lo hi v) (hb : Mk T lo' hi' w w') : LgMine w' lo hi v := by
  obtain ⟨x, h1, h2, r⟩ := h
  exact ⟨x, h1, h2.mk hb, r⟩
set_option maxHeartbeats 1000000 in
theorem markRoute_m (s : Int) (q : Option Addr) (cap n lo hi : Nat) (k0 : Int) (w : World) (ho : OwnIn w lo hi 3 q n) (hlo : lo ≤ w.heap.size) (hn : n ≤ 1048576) (h0 : 0 ≤ k0) (h1 : k0 ≤ 281474976710656) :
    Calls Tryz.prog 27 #[.agg #[.int .i64 s, .slice q n cap], .int .i64 k0] w fun e w' => e = .returned (.int .i64 (k0 + n)) ∧ Mk (fun t => t = 3) lo hi w w' := by
  obtain ⟨W1, hW1⟩ : ∃ W1, W1 = w.alloc (.cells #[.int .i64 s, .slice q n cap] 53) := ⟨_, rfl⟩
  have hf : Fresh w W1 := by rw [hW1]; exact fnew (frefl _) _
  have HW := Lib.hid hW1
  have HF := Lib.hid hf
  have HO := Lib.hid ho
  clear hW1 hf ho
  go_enter Tryz.func27, Tryz.ntmps27
  go_wp2_with fail
  rw [← HW.out]
  clear HW
  refine (markIntS_m q cap n lo hi k0 _ (HO.out.keep HF.out) (by omega) h0 (by omega)).mono ?_
  rintro e w1 ⟨rfl, hb1⟩
  have HM := Lib.hid hb1
  clear hb1
  go_wp2
  go_ret
  exact ⟨rfl, (Mk.fresh HF.out hlo).trans HM.out⟩
section
open Go.ChangeShapes Go.WideShapes Go.ChangeAt Go.Joins
variable {H : Type} {enc : TypeId × Value → H}
end
end Go.Proofs.YtlcppdbpajdnlaaGreat
