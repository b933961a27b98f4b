/- Contracts: lights: sizes, copies, comparisons. -/
import Derived.Test.YtjlhjkdmpngkbaaLoc
import Derived.Test.YtjlhjkdmpngkbaaBlk
import Derived.StillTailTactics
namespace Go.Proofs.Ytjlhjkdmpngkbaa
open Go.RowKit Go.PlainAid

/-- A light as it lies in memory. -/
structure LL where
  id : Int
  r : LR
  f : Int
  c : Int
abbrev llC (x : LL) : List Value := [iv x.id, iv x.r.start, .slice x.r.q x.r.fibs.length x.r.cap, iv x.f, iv x.c]
abbrev llV (x : LL) : Value := .agg #[iv x.id, iv x.r.start, .slice x.r.q x.r.fibs.length x.r.cap, iv x.f, iv x.c]
/-- A light as such: its number, its route, its block. -/
abbrev LtV := Int × (Int × List Int) × (Int × Int)
abbrev LL.val (x : LL) : LtV := (x.id, x.r.val, (x.f, x.c))
def Lts (w : World) (p : Option Addr) (l : List LL) : Prop := Cells w p (l.flatMap llC) ∧ ∀ x ∈ l, Ints w x.r.q x.r.fibs
theorem Lts.keep {w w' : World} {p : Option Addr} {l : List LL} (h : Lts w p l) (hb : Fresh w w') : Lts w' p l := ⟨h.1.keep hb, fun x hx => (h.2 x hx).keep hb⟩
theorem ll_get {l : List LL} {k : Nat} {f : LL} (hx : l[k]? = some f) (r : Nat) (hr : r < 5) : (l.flatMap llC)[k * 5 + r]? = (llC f)[r]? := flat_get llC 5 (fun _ => rfl) l k r hr f hx
theorem Lts.at {w : World} {p : Option Addr} {l : List LL} (h : Lts w p l) {k : Nat} (hk : k < l.length) :
    ∃ b off x, p = some ⟨b, off, none⟩ ∧ l[k]? = some x ∧ x ∈ l ∧ Ints w x.r.q x.r.fibs ∧ w.cell? ⟨b, off + k * 5, none⟩ = some (.int .i64 x.id) ∧ w.cell? ⟨b, off + k * 5 + 1, none⟩ = some (.int .i64 x.r.start) ∧ w.cell? ⟨b, off + k * 5 + 2, none⟩ = some (.slice x.r.q x.r.fibs.length x.r.cap) ∧ w.cell? ⟨b, off + k * 5 + 3, none⟩ = some (.int .i64 x.f) ∧ w.cell? ⟨b, off + k * 5 + 4, none⟩ = some (.int .i64 x.c) := by
  obtain ⟨b, off, rfl, hc⟩ := Cells.at h.1 (k := k) (by rw [flat_len llC 5 (fun _ => rfl)]; omega)
  have hx : l[k]? = some l[k] := by simp [hk]
  refine ⟨b, off, _, rfl, hx, List.getElem_mem hk, h.2 _ (List.getElem_mem hk), hc _ _ ?_, ?_, ?_, ?_, ?_⟩
  · have := ll_get hx 0 (by omega); simpa using this
  · have := hc (k * 5 + 1) _ (by rw [ll_get hx 1 (by omega)]; rfl); rw [← Nat.add_assoc] at this; exact this
  · have := hc (k * 5 + 2) _ (by rw [ll_get hx 2 (by omega)]; rfl); rw [← Nat.add_assoc] at this; exact this
  · have := hc (k * 5 + 3) _ (by rw [ll_get hx 3 (by omega)]; rfl); rw [← Nat.add_assoc] at this; exact this
  · have := hc (k * 5 + 4) _ (by rw [ll_get hx 4 (by omega)]; rfl); rw [← Nat.add_assoc] at this; exact this

set_option maxHeartbeats 400000 in
theorem szLight_any (x : LL) (left : Int) (w : World) (hn : x.r.fibs.length ≤ 9223372036854775807) (h0 : 0 ≤ left) (h1 : left ≤ 1048576) :
    Calls Try.prog 148 #[llV x, .int .i64 left] w (SzOut w left (x.r.fibs.length ≤ 1048576)) := by
  obtain ⟨id, ⟨s, q, cap, l⟩, bf, bc⟩ := x
  simp only at hn ⊢
  go_enter Try.func148, Try.ntmps148
  go_wp2_with fail
  refine (szRoute_any ⟨s, q, cap, l⟩ left _ hn h0 h1).mono ?_
  rintro e w1 ⟨r, rfl, r0, r1, hr, hf⟩
  have HW := Lib.hid (fstep (fnew (frefl _) _) hf)
  have HR := Lib.hid hr
  clear hf hr
  by_cases hneg : r < 0
  · go_wp2
    go_ret
    exact ⟨_, rfl, by omega, by omega, fun h => by omega, HW.out⟩
  · go_wp2
    go_ret
    exact ⟨_, rfl, by omega, by omega, HR.out, HW.out⟩

def LtsSmall (l : List LL) : Prop := l.length ≤ 1048576 ∧ ∀ x ∈ l, x.r.fibs.length ≤ 1048576
set_option maxHeartbeats 1000000 in
theorem szLightS_any (p : Option Addr) (cap : Nat) (l : List LL) (left : Int) (w : World) (hI : Lts w p l) (hn : l.length ≤ 9223372036854775807) (hs : ∀ x ∈ l, x.r.fibs.length ≤ 9223372036854775807) (h0 : 0 ≤ left) (h1 : left ≤ 1048576) :
    Calls Try.prog 98 #[.slice p l.length cap, .int .i64 left] w (SzOut w left (LtsSmall l)) := by
  have HS := Lib.hid hs
  clear hs
  by_cases hb : left - (l.length : Int) < 0
  · go_enter Try.func98, Try.ntmps98
    go_wp2
    go_ret
    exact ⟨_, rfl, by omega, by omega, fun h => by omega, frefl _⟩
  · go_enter Try.func98, Try.ntmps98
    go_wp2
    go_loopw [1, 5] (fun v i wr => ∃ (k : Nat) (r : Int), k ≤ l.length ∧ i = .int .i64 k ∧ v = .int .i64 r ∧ 0 ≤ r ∧ r ≤ left - l.length ∧ (∀ j x, j < k → l[j]? = some x → x.r.fibs.length ≤ 1048576) ∧ Fresh w wr) (fun _ i _ => l.length - (intOf i).toNat)
    case atStart => exact ⟨0, _, Nat.zero_le _, rfl, rfl, by omega, by omega, fun j s hj => by omega, frefl _⟩
    case round =>
      obtain ⟨k, r, hk, rfl, rfl, hr0, hr1, hall, hf⟩ := hrel
      have HA := Lib.hid hall
      have HF := Lib.hid hf
      clear hall
      by_cases hlt : k < l.length
      · obtain ⟨b, off, x, rfl, hx, hmem, _, hc0, hc1, hc2, hc3, hc4⟩ := (hI.keep hf).at hlt
        have hltz : (k : Int) < (l.length : Int) := by omega
        have hsz := HS.out x hmem
        have HX := Lib.hid hx
        clear hx hmem hf
        go_wp2_with fail
        refine (szLight_any x r _ hsz hr0 (by omega)).mono ?_
        rintro e w1 ⟨r2, rfl, r20, r21, hr2, hfb⟩
        have HF := Lib.hid (fstep HF.out hfb)
        have HR2 := Lib.hid hr2
        clear hfb hr2 hc0 hc1 hc2 hc3 hc4
        by_cases hneg : r2 < 0
        · go_wp2
          go_ret
          exact ⟨_, rfl, by omega, by omega, fun h => by omega, HF.out⟩
        · go_wp2
          go_roundw
          case rel =>
            refine ⟨k + 1, r2, by omega, by go_num, rfl, by omega, by omega, ?_, HF.out⟩
            intro j t hj ht
            rcases Nat.lt_or_ge j k with h' | h'
            · exact HA.out j t h' ht
            · have : j = k := by omega
              subst this; rw [HX.out] at ht; cases ht; exact HR2.out (by omega)
          case measure => simp [intOf]; omega
      · have hltz : ¬ (k : Int) < (l.length : Int) := by omega
        have hkn : k = l.length := by omega
        clear hf
        go_wp2
        go_ret
        refine ⟨_, rfl, by omega, by omega, fun _ => ⟨by omega, fun s hs => ?_⟩, HF.out⟩
        obtain ⟨j, hj, rfl⟩ := List.getElem_of_mem hs
        exact HA.out j _ (by omega) (List.getElem?_eq_getElem hj)

set_option maxHeartbeats 400000 in
theorem eqBlock_same (f c : Int) (w : World) : Calls Try.prog 114 #[.agg #[.int .i64 f, .int .i64 c], .agg #[.int .i64 f, .int .i64 c]] w fun e w' => e = .returned (.bool true) ∧ Fresh w w' := by
  go_enter Try.func114, Try.ntmps114
  go_wp2
  go_ret
  exact ⟨rfl, fnew (fnew (frefl _) _) _⟩

/-- Two variables that were laid one after the other. -/
theorem two_rows (w : World) (xs ys : List Value) (t1 t2 : TypeId) : ∃ W2, W2 = (w.alloc (.cells xs.toArray t1)).alloc (.cells ys.toArray t2) ∧ W2.heap.size = w.heap.size + 1 + 1 ∧ Fresh w W2 ∧ RowAt W2 w.heap.size t1 xs ∧ RowAt W2 (w.heap.size + 1) t2 ys := by
  refine ⟨_, rfl, by simp, fnew (fnew (frefl _) _) _, (RowAt.new w _ xs).alloc _, ?_⟩
  have := RowAt.new (w.alloc (.cells xs.toArray t1)) t2 ys
  simpa using this

set_option maxHeartbeats 1000000 in
theorem eqLight_same (x y : LL) (w : World) (he : x.val = y.val) (hx : Ints w x.r.q x.r.fibs) (hy : Ints w y.r.q y.r.fibs) (hn : x.r.fibs.length ≤ 1048576) :
    Calls Try.prog 155 #[llV x, llV y] w fun e w' => e = .returned (.bool true) ∧ Fresh w w' := by
  obtain ⟨id, ⟨s, q, cap, l⟩, bf, bc⟩ := x
  obtain ⟨id', ⟨s', q', cap', l'⟩, bf', bc'⟩ := y
  simp only [LL.val, LR.val, Prod.mk.injEq] at he hx hy hn ⊢
  obtain ⟨rfl, ⟨rfl, rfl⟩, rfl, rfl⟩ := he
  obtain ⟨W2, hW2, hsz2, hf2, r1, r2⟩ := two_rows w [.int .i64 id, .int .i64 s, .slice q l.length cap, .int .i64 bf, .int .i64 bc] [.int .i64 id, .int .i64 s, .slice q' l.length cap', .int .i64 bf, .int .i64 bc] 142 142
  have HR1 := Lib.hid r1
  have HR2 := Lib.hid r2
  have HX := Lib.hid (hx.keep hf2)
  have HY := Lib.hid (hy.keep hf2)
  have HF2 := Lib.hid hf2
  have HW2 := Lib.hid hW2
  clear hx hy hf2 hW2 r1 r2 hsz2
  go_enter Try.func155, Try.ntmps155
  go_wp2_with fail
  rw [← HW2.out]
  refine (eqRoute_same ⟨s, q, cap, l⟩ ⟨s, q', cap', l⟩ W2 rfl HX.out HY.out hn).mono ?_
  rintro e w1 ⟨rfl, hf⟩
  have k13 := (HR1.out.keep hf).cell (i := 3) rfl
  have k14 := (HR1.out.keep hf).cell (i := 4) rfl
  have k23 := (HR2.out.keep hf).cell (i := 3) rfl
  have k24 := (HR2.out.keep hf).cell (i := 4) rfl
  have HF := Lib.hid (fstep HF2.out hf)
  clear hf
  go_wp2_with fail
  refine (eqBlock_same bf bc _).mono ?_
  rintro e w2 ⟨rfl, hf⟩
  have HF := Lib.hid (fstep HF.out hf)
  clear hf
  go_wp2
  go_ret
  exact ⟨rfl, HF.out⟩

def OutLight (w : World) (x : LL) (e : Ending) (w' : World) : Prop := ∃ y : LL, e = .returned (llV y) ∧ y.val = x.val ∧ Own w' w.heap.size 3 y.r.q (y.r.fibs.map iv) ∧ Fresh w w'
abbrev zLt : List Value := [iv 0, iv 0, .slice none 0 0, iv 0, iv 0]
theorem infoLt : (Try.prog.info? 142).map (fun i => (i.zero, i.size, i.bytes)) = some (some (.agg #[iv 0, iv 0, .slice none 0 0, iv 0, iv 0]), zLt.length, 56) := by kernel_rfl

set_option maxHeartbeats 2000000 in
theorem toLight_any (x : LL) (w : World) (hI : Ints w x.r.q x.r.fibs) (hn : x.r.fibs.length ≤ 1048576) : Calls Try.prog 151 #[llV x] w (OutLight w x) := by
  obtain ⟨id, ⟨s, q, cap, l⟩, bf, bc⟩ := x
  simp only at hI hn ⊢
  obtain ⟨W4, hW4, hsz4, hf4, g1, g2, g3⟩ := three_rows w [.int .i64 id, .int .i64 s, .slice q l.length cap, .int .i64 bf, .int .i64 bc] zLt [.int .i64 id, .int .i64 0, .slice none 0 0, .int .i64 0, .int .i64 0] 183 142 142
  have HW4 := Lib.hid hW4
  have HI := Lib.hid hI
  have HS := Lib.hid (And.intro hsz4 (And.intro hf4 (And.intro g1 (And.intro g2 g3))))
  clear hW4 hsz4 hf4 g1 g2 g3 hI
  go_enter Try.func151, Try.ntmps151
  go_wp2_with fail
  rw [← HW4.out]
  clear HW4
  obtain ⟨hsz4, hf4, g1, g2, g3⟩ := HS.out
  refine (toRoute_any ⟨s, q, cap, l⟩ _ (HI.out.keep hf4) hn).mono ?_
  rintro e w1 ⟨⟨s', q', cap', l'⟩, rfl, hv, hrs, hf⟩
  simp only [LR.val, Prod.mk.injEq] at hv hrs
  obtain ⟨rfl, rfl⟩ := hv
  have s1 := g1.keep hf
  have s2 := g2.keep hf
  have s3 := g3.keep hf
  have k13 := s1.cell (i := 3) rfl
  have k14 := s1.cell (i := 4) rfl
  have k31 := s3.cell (i := 1) rfl
  have k32 := s3.cell (i := 2) rfl
  have z31 := s3.frozen 1
  have z32 := s3.frozen 2
  obtain ⟨w2, hw2⟩ : ∃ w2, w2 = (w1.setCell ⟨w.heap.size + 1 + 1, 1, none⟩ (.int .i64 s')).setCell ⟨w.heap.size + 1 + 1, 2, none⟩ (.slice q' l'.length cap') := ⟨_, rfl⟩
  have hfw : Fresh w w2 := by rw [hw2]; exact fset (fset (fstep hf4 hf) (by omega) _) (by omega) _
  have t1 : RowAt w2 w.heap.size 183 [.int .i64 id, .int .i64 s', .slice q l'.length cap, .int .i64 bf, .int .i64 bc] := by rw [hw2]; exact (s1.setOther (by omega) _).setOther (by omega) _
  have t2 : RowAt w2 (w.heap.size + 1) 142 zLt := by rw [hw2]; exact (s2.setOther (by omega) _).setOther (by omega) _
  have t3 : RowAt w2 (w.heap.size + 1 + 1) 142 [iv id, iv s', .slice q' l'.length cap', iv 0, iv 0] := by rw [hw2]; exact (s3.set 1 _).set 2 _
  have ho2 : Own w2 W4.heap.size 3 q' (l'.map iv) := by rw [hw2]; exact (hrs.setOther (by omega) _).setOther (by omega) _
  have HW2 := Lib.hid hw2
  have HT := Lib.hid (And.intro hfw (And.intro t1 (And.intro t2 (And.intro t3 (And.intro ho2 hsz4)))))
  clear s1 s2 s3 g1 g2 g3 hrs hf hf4 HS hsz4 hw2 hfw t1 t2 t3 ho2
  go_wp2_with fail
  rw [← HW2.out]
  clear HW2 k13 k14 k31 k32 z31 z32
  refine (toBlock_any bf bc _).mono ?_
  rintro e w3 ⟨rfl, hb⟩
  obtain ⟨hfw, t1, t2, t3, ho2, hsz4⟩ := HT.out
  have u2 := t2.keep hb
  have u3 := t3.keep hb
  have k20 := u2.cell (i := 0) rfl
  have z20 := u2.frozen 0
  have k21 := u2.cell (i := 1) rfl
  have z21 := u2.frozen 1
  have k22 := u2.cell (i := 2) rfl
  have z22 := u2.frozen 2
  have k23 := u2.cell (i := 3) rfl
  have z23 := u2.frozen 3
  have k24 := u2.cell (i := 4) rfl
  have z24 := u2.frozen 4
  have k30 := u3.cell (i := 0) rfl
  have z30 := u3.frozen 0
  have k31 := u3.cell (i := 1) rfl
  have z31 := u3.frozen 1
  have k32 := u3.cell (i := 2) rfl
  have z32 := u3.frozen 2
  have k33 := u3.cell (i := 3) rfl
  have z33 := u3.frozen 3
  have k34 := u3.cell (i := 4) rfl
  have z34 := u3.frozen 4
  have HR := Lib.hid (And.intro (ho2.keep hb) (And.intro (fstep hfw hb) hsz4))
  clear u2 u3 t1 t2 t3 ho2 hfw hb HT hsz4
  go_wp2
  obtain ⟨hrs, hf, hsz4⟩ := HR.out
  refine bodyPost_ret (v := .agg #[.int .i64 id, .int .i64 s', .slice q' l'.length cap', .int .i64 bf, .int .i64 bc]) (by simp [results, Try.results151, go_sem, k20, k21, k22, k23, k24]) rfl ?_
  refine ⟨⟨id, ⟨s', q', cap', l'⟩, bf, bc⟩, rfl, rfl, ?_, ?_⟩
  · refine Own.mono (base := W4.heap.size) ?_ (by omega)
    repeat (refine Own.setOther ?_ (by omega) _)
    exact hrs
  · repeat (refine fset ?_ (by omega) _)
    exact hf
end Go.Proofs.Ytjlhjkdmpngkbaa
