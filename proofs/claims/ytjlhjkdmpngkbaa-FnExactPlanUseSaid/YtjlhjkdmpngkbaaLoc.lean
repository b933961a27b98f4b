/- Contracts: routes: sizes, copies, comparisons. -/
import Derived.Test.YtjlhjkdmpngkbaaData2
import Derived.Test.YtjlhjkdmpngkbaaRoute2
namespace Go.Proofs.Ytjlhjkdmpngkbaa
open Go.RowKit Go.PlainAid

/-- A route as it lies in memory: its start, and where its fibers lie. -/
structure LR where
  start : Int
  q : Option Addr
  cap : Nat
  fibs : List Int
abbrev lrC (r : LR) : List Value := [iv r.start, .slice r.q r.fibs.length r.cap]
abbrev lrV (r : LR) : Value := .agg #[iv r.start, .slice r.q r.fibs.length r.cap]
/-- A route as such. -/
abbrev LR.val (r : LR) : Int × List Int := (r.start, r.fibs)

set_option maxHeartbeats 400000 in
theorem szIntS_any (p : Option Addr) (n cap : Nat) (left : Int) (w : World) (hn : n ≤ 9223372036854775807) (h0 : 0 ≤ left) (h1 : left ≤ 1048576) :
    Calls Try.prog 124 #[.slice p n cap, .int .i64 left] w (SzOut w left (n ≤ 1048576)) := by
  by_cases hb : left - (n : Int) < 0
  · go_enter Try.func124, Try.ntmps124
    go_wp2
    go_ret
    exact ⟨_, rfl, by omega, by omega, fun h => by omega, frefl _⟩
  · go_enter Try.func124, Try.ntmps124
    go_wp2
    go_ret
    exact ⟨_, rfl, by omega, by omega, fun h => by omega, frefl _⟩

set_option maxHeartbeats 400000 in
theorem szRoute_any (r : LR) (left : Int) (w : World) (hn : r.fibs.length ≤ 9223372036854775807) (h0 : 0 ≤ left) (h1 : left ≤ 1048576) :
    Calls Try.prog 60 #[lrV r, .int .i64 left] w (SzOut w left (r.fibs.length ≤ 1048576)) := by
  obtain ⟨s, q, cap, l⟩ := r
  simp only at hn ⊢
  go_enter Try.func60, Try.ntmps60
  go_wp2_with fail
  refine (szIntS_any q l.length cap left _ hn h0 h1).mono ?_
  rintro e w1 ⟨r, rfl, r0, r1, hr, hf⟩
  have HW := Lib.hid (fstep (fnew (frefl _) _) hf)
  have HR := Lib.hid hr
  clear hf hr
  by_cases hneg : r < 0
  · go_wp2
    go_ret
    exact ⟨_, rfl, by omega, by omega, fun h => by omega, HW.out⟩
  · go_wp2
    go_ret
    exact ⟨_, rfl, by omega, by omega, HR.out, HW.out⟩

set_option maxHeartbeats 1000000 in
theorem eqRoute_same (r r' : LR) (w : World) (he : r.val = r'.val) (hx : Ints w r.q r.fibs) (hy : Ints w r'.q r'.fibs) (hn : r.fibs.length ≤ 1048576) :
    Calls Try.prog 64 #[lrV r, lrV r'] w fun e w' => e = .returned (.bool true) ∧ Fresh w w' := by
  obtain ⟨s, q, cap, l⟩ := r
  obtain ⟨s', q', cap', l'⟩ := r'
  simp only [LR.val, Prod.mk.injEq] at he hx hy hn ⊢
  obtain ⟨rfl, rfl⟩ := he
  obtain ⟨W2, hW2⟩ : ∃ W2, W2 = (w.alloc (.cells #[.int .i64 s, .slice q l.length cap] 79)).alloc (.cells #[.int .i64 s, .slice q' l.length cap'] 79) := ⟨_, rfl⟩
  have hf2 : Fresh w W2 := by rw [hW2]; exact fnew (fnew (frefl _) _) _
  have HX := Lib.hid (hx.keep hf2)
  have HY := Lib.hid (hy.keep hf2)
  have HF2 := Lib.hid hf2
  have HW2 := Lib.hid hW2
  clear hx hy hf2 hW2
  go_enter Try.func64, Try.ntmps64
  go_wp2_with fail
  rw [← HW2.out]
  have hcc := eqIntS_any q q' cap cap' l l W2 HX.out HY.out (by omega)
  rw [show eqInts l l = true by simp [eqInts]] at hcc
  refine hcc.mono ?_
  clear hcc
  rintro e w1 ⟨rfl, hf⟩
  have HF := Lib.hid (fstep HF2.out hf)
  clear hf
  go_wp2
  go_ret
  exact ⟨rfl, HF.out⟩

def OutRoute (w : World) (r : LR) (e : Ending) (w' : World) : Prop := ∃ r' : LR, e = .returned (lrV r') ∧ r'.val = r.val ∧ Own w' w.heap.size 3 r'.q (r'.fibs.map iv) ∧ Fresh w w'
/-- Three variables that were laid one after the other. -/
theorem three_rows (w : World) (xs ys zz : List Value) (t1 t2 t3 : TypeId) : ∃ W3, W3 = ((w.alloc (.cells xs.toArray t1)).alloc (.cells ys.toArray t2)).alloc (.cells zz.toArray t3) ∧ W3.heap.size = w.heap.size + 1 + 1 + 1 ∧ Fresh w W3 ∧
    RowAt W3 w.heap.size t1 xs ∧ RowAt W3 (w.heap.size + 1) t2 ys ∧ RowAt W3 (w.heap.size + 1 + 1) t3 zz := by
  refine ⟨_, rfl, by simp, fnew (fnew (fnew (frefl _) _) _) _, ((RowAt.new w _ xs).alloc _).alloc _, ?_, ?_⟩
  · have := (RowAt.new (w.alloc (.cells xs.toArray t1)) t2 ys).alloc (.cells zz.toArray t3)
    simpa using this
  · have := RowAt.new ((w.alloc (.cells xs.toArray t1)).alloc (.cells ys.toArray t2)) t3 zz
    simpa using this

set_option maxHeartbeats 2000000 in
theorem toRoute_any (r : LR) (w : World) (hI : Ints w r.q r.fibs) (hn : r.fibs.length ≤ 1048576) : Calls Try.prog 62 #[lrV r] w (OutRoute w r) := by
  obtain ⟨s, q, cap, l⟩ := r
  simp only at hI hn ⊢
  obtain ⟨W3, hW3, hsz3, hf3, r1, r2, r3⟩ := three_rows w [.int .i64 s, .slice q l.length cap] [.int .i64 0, .slice none 0 0] [.int .i64 s, .slice none 0 0] 71 79 79
  have HW3 := Lib.hid hW3
  have HS := Lib.hid (And.intro hsz3 (And.intro hf3 (And.intro r1 (And.intro r2 r3))))
  have HI := Lib.hid hI
  clear hW3 hsz3 hf3 r1 r2 r3 hI
  go_enter Try.func62, Try.ntmps62
  go_wp2_with fail
  rw [← HW3.out]
  clear HW3
  obtain ⟨hsz3, hf3, r1, r2, r3⟩ := HS.out
  refine (toIntS_any q cap l _ (HI.out.keep hf3) hn).mono ?_
  rintro e w1 ⟨rfl, hrs, hf⟩
  have s2 := r2.keep hf
  have s3 := r3.keep hf
  have k20 := s2.cell (i := 0) rfl
  have k21 := s2.cell (i := 1) rfl
  have z20 := s2.frozen 0
  have z21 := s2.frozen 1
  have k30 := s3.cell (i := 0) rfl
  have k31 := s3.cell (i := 1) rfl
  have z31 := s3.frozen 1
  have HR := Lib.hid (And.intro hrs (fstep hf3 hf))
  have HZ := Lib.hid hsz3
  clear s2 s3 r1 r2 r3 hrs hf hf3 HS hsz3
  go_wp2
  obtain ⟨hrs, hf⟩ := HR.out
  have hsz3 := HZ.out
  refine bodyPost_ret (v := .agg #[.int .i64 s, .slice (some ⟨W3.heap.size, 0, none⟩) l.length l.length]) (by simp [results, Try.results62, go_sem, k20, k21]) rfl ?_
  refine ⟨⟨s, some ⟨W3.heap.size, 0, none⟩, l.length, l⟩, rfl, rfl, Or.inr ⟨W3.heap.size, [], rfl, by omega, ?_⟩, ?_⟩
  · rw [List.append_nil]
    repeat (refine RowAt.setOther ?_ (by omega) _)
    exact hrs
  · repeat (refine fset ?_ (by omega) _)
    exact hf
end Go.Proofs.Ytjlhjkdmpngkbaa
