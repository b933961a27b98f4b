/- Contracts: requests: sizes, copies, comparisons. -/
import Derived.Test.YtjlhjkdmpngkbaaLoc
namespace Go.Proofs.Ytjlhjkdmpngkbaa
open Go.RowKit Go.PlainAid

/-- A request as it lies in memory. -/
structure LQ where
  r : LR
  count : Int
abbrev lqC (x : LQ) : List Value := [iv x.r.start, .slice x.r.q x.r.fibs.length x.r.cap, iv x.count]
abbrev lqV (x : LQ) : Value := .agg #[iv x.r.start, .slice x.r.q x.r.fibs.length x.r.cap, iv x.count]
/-- A request as such. -/
abbrev LQ.val (x : LQ) : (Int × List Int) × Int := (x.r.val, x.count)
/-- The cells of a list of requests, and those of each one's fibers. -/
def Reqs (w : World) (p : Option Addr) (l : List LQ) : Prop := Cells w p (l.flatMap lqC) ∧ ∀ x ∈ l, Ints w x.r.q x.r.fibs
theorem Reqs.keep {w w' : World} {p : Option Addr} {l : List LQ} (h : Reqs w p l) (hb : Fresh w w') : Reqs w' p l := ⟨h.1.keep hb, fun x hx => (h.2 x hx).keep hb⟩
theorem lq_get {l : List LQ} {k : Nat} {f : LQ} (hx : l[k]? = some f) (r : Nat) (hr : r < 3) : (l.flatMap lqC)[k * 3 + r]? = (lqC f)[r]? := flat_get lqC 3 (fun _ => rfl) l k r hr f hx
theorem Reqs.at {w : World} {p : Option Addr} {l : List LQ} (h : Reqs w p l) {k : Nat} (hk : k < l.length) :
    ∃ b off x, p = some ⟨b, off, none⟩ ∧ l[k]? = some x ∧ x ∈ l ∧ Ints w x.r.q x.r.fibs ∧ w.cell? ⟨b, off + k * 3, none⟩ = some (.int .i64 x.r.start) ∧ w.cell? ⟨b, off + k * 3 + 1, none⟩ = some (.slice x.r.q x.r.fibs.length x.r.cap) ∧ w.cell? ⟨b, off + k * 3 + 2, none⟩ = some (.int .i64 x.count) := by
  obtain ⟨b, off, rfl, hc⟩ := Cells.at h.1 (k := k) (by rw [flat_len lqC 3 (fun _ => rfl)]; omega)
  have hx : l[k]? = some l[k] := by simp [hk]
  refine ⟨b, off, _, rfl, hx, List.getElem_mem hk, h.2 _ (List.getElem_mem hk), hc _ _ ?_, ?_, ?_⟩
  · have := lq_get hx 0 (by omega); simpa using this
  · have := hc (k * 3 + 1) _ (by rw [lq_get hx 1 (by omega)]; rfl); rw [← Nat.add_assoc] at this; exact this
  · have := hc (k * 3 + 2) _ (by rw [lq_get hx 2 (by omega)]; rfl); rw [← Nat.add_assoc] at this; exact this

set_option maxHeartbeats 400000 in
theorem szRequest_any (x : LQ) (left : Int) (w : World) (hn : x.r.fibs.length ≤ 9223372036854775807) (h0 : 0 ≤ left) (h1 : left ≤ 1048576) :
    Calls Try.prog 85 #[lqV x, .int .i64 left] w (SzOut w left (x.r.fibs.length ≤ 1048576)) := by
  obtain ⟨⟨s, q, cap, l⟩, c⟩ := x
  simp only at hn ⊢
  go_enter Try.func85, Try.ntmps85
  go_wp2_with fail
  refine (szRoute_any ⟨s, q, cap, l⟩ left _ hn h0 h1).mono ?_
  rintro e w1 ⟨r, rfl, r0, r1, hr, hf⟩
  have HW := Lib.hid (fstep (fnew (frefl _) _) hf)
  have HR := Lib.hid hr
  clear hf hr
  by_cases hneg : r < 0
  · go_wp2
    go_ret
    exact ⟨_, rfl, by omega, by omega, fun h => by omega, HW.out⟩
  · go_wp2
    go_ret
    exact ⟨_, rfl, by omega, by omega, HR.out, HW.out⟩

def ReqsSmall (l : List LQ) : Prop := l.length ≤ 1048576 ∧ ∀ x ∈ l, x.r.fibs.length ≤ 1048576
set_option maxHeartbeats 1000000 in
theorem szRequestS_any (p : Option Addr) (cap : Nat) (l : List LQ) (left : Int) (w : World) (hI : Reqs w p l) (hn : l.length ≤ 9223372036854775807) (hs : ∀ x ∈ l, x.r.fibs.length ≤ 9223372036854775807) (h0 : 0 ≤ left) (h1 : left ≤ 1048576) :
    Calls Try.prog 23 #[.slice p l.length cap, .int .i64 left] w (SzOut w left (ReqsSmall l)) := by
  have HS := Lib.hid hs
  clear hs
  by_cases hb : left - (l.length : Int) < 0
  · go_enter Try.func23, Try.ntmps23
    go_wp2
    go_ret
    exact ⟨_, rfl, by omega, by omega, fun h => by omega, frefl _⟩
  · go_enter Try.func23, Try.ntmps23
    go_wp2
    go_loopw [1, 5] (fun v i wr => ∃ (k : Nat) (r : Int), k ≤ l.length ∧ i = .int .i64 k ∧ v = .int .i64 r ∧ 0 ≤ r ∧ r ≤ left - l.length ∧ (∀ j x, j < k → l[j]? = some x → x.r.fibs.length ≤ 1048576) ∧ Fresh w wr) (fun _ i _ => l.length - (intOf i).toNat)
    case atStart => exact ⟨0, _, Nat.zero_le _, rfl, rfl, by omega, by omega, fun j s hj => by omega, frefl _⟩
    case round =>
      obtain ⟨k, r, hk, rfl, rfl, hr0, hr1, hall, hf⟩ := hrel
      have HA := Lib.hid hall
      have HF := Lib.hid hf
      clear hall
      by_cases hlt : k < l.length
      · obtain ⟨b, off, x, rfl, hx, hmem, _, hc0, hc1, hc2⟩ := (hI.keep hf).at hlt
        have hltz : (k : Int) < (l.length : Int) := by omega
        have hsz := HS.out x hmem
        have HX := Lib.hid hx
        clear hx hmem hf
        go_wp2_with fail
        refine (szRequest_any x r _ hsz hr0 (by omega)).mono ?_
        rintro e w1 ⟨r2, rfl, r20, r21, hr2, hfb⟩
        have HF := Lib.hid (fstep HF.out hfb)
        have HR2 := Lib.hid hr2
        clear hfb hr2 hc0 hc1 hc2
        by_cases hneg : r2 < 0
        · go_wp2
          go_ret
          exact ⟨_, rfl, by omega, by omega, fun h => by omega, HF.out⟩
        · go_wp2
          go_roundw
          case rel =>
            refine ⟨k + 1, r2, by omega, by go_num, rfl, by omega, by omega, ?_, HF.out⟩
            intro j t hj ht
            rcases Nat.lt_or_ge j k with h' | h'
            · exact HA.out j t h' ht
            · have : j = k := by omega
              subst this; rw [HX.out] at ht; cases ht; exact HR2.out (by omega)
          case measure => simp [intOf]; omega
      · have hltz : ¬ (k : Int) < (l.length : Int) := by omega
        have hkn : k = l.length := by omega
        clear hf
        go_wp2
        go_ret
        refine ⟨_, rfl, by omega, by omega, fun _ => ⟨by omega, fun s hs => ?_⟩, HF.out⟩
        obtain ⟨j, hj, rfl⟩ := List.getElem_of_mem hs
        exact HA.out j _ (by omega) (List.getElem?_eq_getElem hj)

set_option maxHeartbeats 1000000 in
theorem eqRequest_same (x y : LQ) (w : World) (he : x.val = y.val) (hx : Ints w x.r.q x.r.fibs) (hy : Ints w y.r.q y.r.fibs) (hn : x.r.fibs.length ≤ 1048576) :
    Calls Try.prog 92 #[lqV x, lqV y] w fun e w' => e = .returned (.bool true) ∧ Fresh w w' := by
  obtain ⟨⟨s, q, cap, l⟩, c⟩ := x
  obtain ⟨⟨s', q', cap', l'⟩, c'⟩ := y
  simp only [LQ.val, LR.val, Prod.mk.injEq] at he hx hy hn ⊢
  obtain ⟨⟨rfl, rfl⟩, rfl⟩ := he
  obtain ⟨W2, hW2⟩ : ∃ W2, W2 = (w.alloc (.cells #[.int .i64 s, .slice q l.length cap, .int .i64 c] 128)).alloc (.cells #[.int .i64 s, .slice q' l.length cap', .int .i64 c] 128) := ⟨_, rfl⟩
  have hf2 : Fresh w W2 := by rw [hW2]; exact fnew (fnew (frefl _) _) _
  have r1 : RowAt W2 w.heap.size 128 [.int .i64 s, .slice q l.length cap, .int .i64 c] := by rw [hW2]; exact (RowAt.new w _ [.int .i64 s, .slice q l.length cap, .int .i64 c]).alloc _
  have r2 : RowAt W2 (w.heap.size + 1) 128 [.int .i64 s, .slice q' l.length cap', .int .i64 c] := by
    rw [hW2]
    have := RowAt.new (w.alloc (.cells #[.int .i64 s, .slice q l.length cap, .int .i64 c] 128)) 128 [.int .i64 s, .slice q' l.length cap', .int .i64 c]
    simpa using this
  have HR1 := Lib.hid r1
  have HR2 := Lib.hid r2
  have HX := Lib.hid (hx.keep hf2)
  have HY := Lib.hid (hy.keep hf2)
  have HF2 := Lib.hid hf2
  have HW2 := Lib.hid hW2
  clear hx hy hf2 hW2 r1 r2
  go_enter Try.func92, Try.ntmps92
  go_wp2_with fail
  rw [← HW2.out]
  refine (eqRoute_same ⟨s, q, cap, l⟩ ⟨s, q', cap', l⟩ W2 rfl HX.out HY.out hn).mono ?_
  rintro e w1 ⟨rfl, hf⟩
  have k1 := (HR1.out.keep hf).cell (i := 2) rfl
  have k2 := (HR2.out.keep hf).cell (i := 2) rfl
  have HF := Lib.hid (fstep HF2.out hf)
  clear hf
  go_wp2
  go_ret
  exact ⟨rfl, HF.out⟩
end Go.Proofs.Ytjlhjkdmpngkbaa
