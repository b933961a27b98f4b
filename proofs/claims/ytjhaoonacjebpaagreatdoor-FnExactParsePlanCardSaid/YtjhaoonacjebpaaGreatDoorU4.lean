/- Texts of mine laid together (Lt, Lt2, Pl, Lw, Lw2, Pv, Pv2, Pv3, OpenP, KBlk, OpenB): contracts of functions and plain laws. -/
import Derived.Test.YtjhaoonacjebpaaGreatDoorU3
import Derived.Test.YtjhaoonacjebpaaGreatDoorU1
import Derived.StillTailTactics
import Derived.Test.YtjhaoonacjebpaaGreatDoorU2
import Derived.Deep.RegionHeld3
/- Contracts: lights: sizes, copies, comparisons. -/
namespace Go.Proofs.YtjhaoonacjebpaaGreatDoor
open Go.RowKit Go.PlainAid

/-- A light as it lies in memory. -/
structure LL where
  id : Int
  r : LR
  f : Int
  c : Int
abbrev llC (x : LL) : List Value := [iv x.id, iv x.r.start, .slice x.r.q x.r.fibs.length x.r.cap, iv x.f, iv x.c]
abbrev llV (x : LL) : Value := .agg #[iv x.id, iv x.r.start, .slice x.r.q x.r.fibs.length x.r.cap, iv x.f, iv x.c]
/-- A light as such: its number, its route, its block. -/
abbrev LtV := Int × (Int × List Int) × (Int × Int)
abbrev LL.val (x : LL) : LtV := (x.id, x.r.val, (x.f, x.c))
def Lts (w : World) (p : Option Addr) (l : List LL) : Prop := Cells w p (l.flatMap llC) ∧ ∀ x ∈ l, Ints w x.r.q x.r.fibs
theorem Lts.keep {w w' : World} {p : Option Addr} {l : List LL} (h : Lts w p l) (hb : Fresh w w') : Lts w' p l := ⟨h.1.keep hb, fun x hx => (h.2 x hx).keep hb⟩
theorem ll_get {l : List LL} {k : Nat} {f : LL} (hx : l[k]? = some f) (r : Nat) (hr : r < 5) : (l.flatMap llC)[k * 5 + r]? = (llC f)[r]? := flat_get llC 5 (fun _ => rfl) l k r hr f hx
theorem Lts.at {w : World} {p : Option Addr} {l : List LL} (h : Lts w p l) {k : Nat} (hk : k < l.length) :
    ∃ b off x, p = some ⟨b, off, none⟩ ∧ l[k]? = some x ∧ x ∈ l ∧ Ints w x.r.q x.r.fibs ∧ w.cell? ⟨b, off + k * 5, none⟩ = some (.int .i64 x.id) ∧ w.cell? ⟨b, off + k * 5 + 1, none⟩ = some (.int .i64 x.r.start) ∧ w.cell? ⟨b, off + k * 5 + 2, none⟩ = some (.slice x.r.q x.r.fibs.length x.r.cap) ∧ w.cell? ⟨b, off + k * 5 + 3, none⟩ = some (.int .i64 x.f) ∧ w.cell? ⟨b, off + k * 5 + 4, none⟩ = some (.int .i64 x.c) := by
  obtain ⟨b, off, rfl, hc⟩ := Cells.at h.1 (k := k) (by rw [flat_len llC 5 (fun _ => rfl)]; omega)
  have hx : l[k]? = some l[k] := by simp [hk]
  refine ⟨b, off, _, rfl, hx, List.getElem_mem hk, h.2 _ (List.getElem_mem hk), hc _ _ ?_, ?_, ?_, ?_, ?_⟩
  · have := ll_get hx 0 (by omega); simpa using this
  · have := hc (k * 5 + 1) _ (by rw [ll_get hx 1 (by omega)]; rfl); rw [← Nat.add_assoc] at this; exact this
  · have := hc (k * 5 + 2) _ (by rw [ll_get hx 2 (by omega)]; rfl); rw [← Nat.add_assoc] at this; exact this
  · have := hc (k * 5 + 3) _ (by rw [ll_get hx 3 (by omega)]; rfl); rw [← Nat.add_assoc] at this; exact this
  · have := hc (k * 5 + 4) _ (by rw [ll_get hx 4 (by omega)]; rfl); rw [← Nat.add_assoc] at this; exact this

set_option maxHeartbeats 400000 in
theorem szLight_any (x : LL) (left : Int) (w : World) (hn : x.r.fibs.length ≤ 9223372036854775807) (h0 : 0 ≤ left) (h1 : left ≤ 1048576) :
    Calls Tryz.prog 40 #[llV x, .int .i64 left] w (SzOut w left (x.r.fibs.length ≤ 1048576)) := by
  obtain ⟨id, ⟨s, q, cap, l⟩, bf, bc⟩ := x
  simp only at hn ⊢
  go_enter Tryz.func40, Tryz.ntmps40
  go_wp2_with fail
  refine (szRoute_any ⟨s, q, cap, l⟩ left _ hn h0 h1).mono ?_
  rintro e w1 ⟨r, rfl, r0, r1, hr, hf⟩
  have HW := Lib.hid (fstep (fnew (frefl _) _) hf)
  have HR := Lib.hid hr
  clear hf hr
  by_cases hneg : r < 0
  · go_wp2
    go_ret
    exact ⟨_, rfl, by omega, by omega, fun h => by omega, HW.out⟩
  · go_wp2
    go_ret
    exact ⟨_, rfl, by omega, by omega, HR.out, HW.out⟩

def LtsSmall (l : List LL) : Prop := l.length ≤ 1048576 ∧ ∀ x ∈ l, x.r.fibs.length ≤ 1048576
set_option maxHeartbeats 1000000 in
theorem szLightS_any (p : Option Addr) (cap : Nat) (l : List LL) (left : Int) (w : World) (hI : Lts w p l) (hn : l.length ≤ 9223372036854775807) (hs : ∀ x ∈ l, x.r.fibs.length ≤ 9223372036854775807) (h0 : 0 ≤ left) (h1 : left ≤ 1048576) :
    Calls Tryz.prog 15 #[.slice p l.length cap, .int .i64 left] w (SzOut w left (LtsSmall l)) := by
  have HS := Lib.hid hs
  clear hs
  by_cases hb : left - (l.length : Int) < 0
  · go_enter Tryz.func15, Tryz.ntmps15
    go_wp2
    go_ret
    exact ⟨_, rfl, by omega, by omega, fun h => by omega, frefl _⟩
  · go_enter Tryz.func15, Tryz.ntmps15
    go_wp2
    go_loopw [1, 5] (fun v i wr => ∃ (k : Nat) (r : Int), k ≤ l.length ∧ i = .int .i64 k ∧ v = .int .i64 r ∧ 0 ≤ r ∧ r ≤ left - l.length ∧ (∀ j x, j < k → l[j]? = some x → x.r.fibs.length ≤ 1048576) ∧ Fresh w wr) (fun _ i _ => l.length - (intOf i).toNat)
    case atStart => exact ⟨0, _, Nat.zero_le _, rfl, rfl, by omega, by omega, fun j s hj => by omega, frefl _⟩
    case round =>
      obtain ⟨k, r, hk, rfl, rfl, hr0, hr1, hall, hf⟩ := hrel
      have HA := Lib.hid hall
      have HF := Lib.hid hf
      clear hall
      by_cases hlt : k < l.length
      · obtain ⟨b, off, x, rfl, hx, hmem, _, hc0, hc1, hc2, hc3, hc4⟩ := (hI.keep hf).at hlt
        have hltz : (k : Int) < (l.length : Int) := by omega
        have hsz := HS.out x hmem
        have HX := Lib.hid hx
        clear hx hmem hf
        go_wp2_with fail
        refine (szLight_any x r _ hsz hr0 (by omega)).mono ?_
        rintro e w1 ⟨r2, rfl, r20, r21, hr2, hfb⟩
        have HF := Lib.hid (fstep HF.out hfb)
        have HR2 := Lib.hid hr2
        clear hfb hr2 hc0 hc1 hc2 hc3 hc4
        by_cases hneg : r2 < 0
        · go_wp2
          go_ret
          exact ⟨_, rfl, by omega, by omega, fun h => by omega, HF.out⟩
        · go_wp2
          go_roundw
          case rel =>
            refine ⟨k + 1, r2, by omega, by go_num, rfl, by omega, by omega, ?_, HF.out⟩
            intro j t hj ht
            rcases Nat.lt_or_ge j k with h' | h'
            · exact HA.out j t h' ht
            · have : j = k := by omega
              subst this; rw [HX.out] at ht; cases ht; exact HR2.out (by omega)
          case measure => simp [intOf]; omega
      · have hltz : ¬ (k : Int) < (l.length : Int) := by omega
        have hkn : k = l.length := by omega
        clear hf
        go_wp2
        go_ret
        refine ⟨_, rfl, by omega, by omega, fun _ => ⟨by omega, fun s hs => ?_⟩, HF.out⟩
        obtain ⟨j, hj, rfl⟩ := List.getElem_of_mem hs
        exact HA.out j _ (by omega) (List.getElem?_eq_getElem hj)

set_option maxHeartbeats 400000 in
theorem eqBlock_same (f c : Int) (w : World) : Calls Tryz.prog 110 #[.agg #[.int .i64 f, .int .i64 c], .agg #[.int .i64 f, .int .i64 c]] w fun e w' => e = .returned (.bool true) ∧ Fresh w w' := by
  go_enter Tryz.func110, Tryz.ntmps110
  go_wp2
  go_ret
  exact ⟨rfl, fnew (fnew (frefl _) _) _⟩

/-- Two variables that were laid one after the other. -/
theorem two_rows (w : World) (xs ys : List Value) (t1 t2 : TypeId) : ∃ W2, W2 = (w.alloc (.cells xs.toArray t1)).alloc (.cells ys.toArray t2) ∧ W2.heap.size = w.heap.size + 1 + 1 ∧ Fresh w W2 ∧ RowAt W2 w.heap.size t1 xs ∧ RowAt W2 (w.heap.size + 1) t2 ys := by
  refine ⟨_, rfl, by simp, fnew (fnew (frefl _) _) _, (RowAt.new w _ xs).alloc _, ?_⟩
  have := RowAt.new (w.alloc (.cells xs.toArray t1)) t2 ys
  simpa using this

set_option maxHeartbeats 1000000 in
theorem eqLight_same (x y : LL) (w : World) (he : x.val = y.val) (hx : Ints w x.r.q x.r.fibs) (hy : Ints w y.r.q y.r.fibs) (hn : x.r.fibs.length ≤ 1048576) :
    Calls Tryz.prog 59 #[llV x, llV y] w fun e w' => e = .returned (.bool true) ∧ Fresh w w' := by
  obtain ⟨id, ⟨s, q, cap, l⟩, bf, bc⟩ := x
  obtain ⟨id', ⟨s', q', cap', l'⟩, bf', bc'⟩ := y
  simp only [LL.val, LR.val, Prod.mk.injEq] at he hx hy hn ⊢
  obtain ⟨rfl, ⟨rfl, rfl⟩, rfl, rfl⟩ := he
  obtain ⟨W2, hW2, hsz2, hf2, r1, r2⟩ := two_rows w [.int .i64 id, .int .i64 s, .slice q l.length cap, .int .i64 bf, .int .i64 bc] [.int .i64 id, .int .i64 s, .slice q' l.length cap', .int .i64 bf, .int .i64 bc] 58 58
  have HR1 := Lib.hid r1
  have HR2 := Lib.hid r2
  have HX := Lib.hid (hx.keep hf2)
  have HY := Lib.hid (hy.keep hf2)
  have HF2 := Lib.hid hf2
  have HW2 := Lib.hid hW2
  clear hx hy hf2 hW2 r1 r2 hsz2
  go_enter Tryz.func59, Tryz.ntmps59
  go_wp2_with fail
  rw [← HW2.out]
  refine (eqRoute_same ⟨s, q, cap, l⟩ ⟨s, q', cap', l⟩ W2 rfl HX.out HY.out hn).mono ?_
  rintro e w1 ⟨rfl, hf⟩
  have k13 := (HR1.out.keep hf).cell (i := 3) rfl
  have k14 := (HR1.out.keep hf).cell (i := 4) rfl
  have k23 := (HR2.out.keep hf).cell (i := 3) rfl
  have k24 := (HR2.out.keep hf).cell (i := 4) rfl
  have HF := Lib.hid (fstep HF2.out hf)
  clear hf
  go_wp2_with fail
  refine (eqBlock_same bf bc _).mono ?_
  rintro e w2 ⟨rfl, hf⟩
  have HF := Lib.hid (fstep HF.out hf)
  clear hf
  go_wp2
  go_ret
  exact ⟨rfl, HF.out⟩

def OutLight (w : World) (x : LL) (e : Ending) (w' : World) : Prop := ∃ y : LL, e = .returned (llV y) ∧ y.val = x.val ∧ Own w' w.heap.size 3 y.r.q (y.r.fibs.map iv) ∧ Fresh w w'
abbrev zLt : List Value := [iv 0, iv 0, .slice none 0 0, iv 0, iv 0]
theorem infoLt : (Tryz.prog.info? 58).map (fun i => (i.zero, i.size, i.bytes)) = some (some (.agg #[iv 0, iv 0, .slice none 0 0, iv 0, iv 0]), zLt.length, 56) := by kernel_rfl

set_option maxHeartbeats 2000000 in
theorem toLight_any (x : LL) (w : World) (hI : Ints w x.r.q x.r.fibs) (hn : x.r.fibs.length ≤ 1048576) : Calls Tryz.prog 48 #[llV x] w (OutLight w x) := by
  obtain ⟨id, ⟨s, q, cap, l⟩, bf, bc⟩ := x
  simp only at hI hn ⊢
  obtain ⟨W4, hW4, hsz4, hf4, g1, g2, g3⟩ := three_rows w [.int .i64 id, .int .i64 s, .slice q l.length cap, .int .i64 bf, .int .i64 bc] zLt [.int .i64 id, .int .i64 0, .slice none 0 0, .int .i64 0, .int .i64 0] 83 58 58
  have HW4 := Lib.hid hW4
  have HI := Lib.hid hI
  have HS := Lib.hid (And.intro hsz4 (And.intro hf4 (And.intro g1 (And.intro g2 g3))))
  clear hW4 hsz4 hf4 g1 g2 g3 hI
  go_enter Tryz.func48, Tryz.ntmps48
  go_wp2_with fail
  rw [← HW4.out]
  clear HW4
  obtain ⟨hsz4, hf4, g1, g2, g3⟩ := HS.out
  refine (toRoute_any ⟨s, q, cap, l⟩ _ (HI.out.keep hf4) hn).mono ?_
  rintro e w1 ⟨⟨s', q', cap', l'⟩, rfl, hv, hrs, hf⟩
  simp only [LR.val, Prod.mk.injEq] at hv hrs
  obtain ⟨rfl, rfl⟩ := hv
  have s1 := g1.keep hf
  have s2 := g2.keep hf
  have s3 := g3.keep hf
  have k13 := s1.cell (i := 3) rfl
  have k14 := s1.cell (i := 4) rfl
  have k31 := s3.cell (i := 1) rfl
  have k32 := s3.cell (i := 2) rfl
  have z31 := s3.frozen 1
  have z32 := s3.frozen 2
  obtain ⟨w2, hw2⟩ : ∃ w2, w2 = (w1.setCell ⟨w.heap.size + 1 + 1, 1, none⟩ (.int .i64 s')).setCell ⟨w.heap.size + 1 + 1, 2, none⟩ (.slice q' l'.length cap') := ⟨_, rfl⟩
  have hfw : Fresh w w2 := by rw [hw2]; exact fset (fset (fstep hf4 hf) (by omega) _) (by omega) _
  have t1 : RowAt w2 w.heap.size 83 [.int .i64 id, .int .i64 s', .slice q l'.length cap, .int .i64 bf, .int .i64 bc] := by rw [hw2]; exact (s1.setOther (by omega) _).setOther (by omega) _
  have t2 : RowAt w2 (w.heap.size + 1) 58 zLt := by rw [hw2]; exact (s2.setOther (by omega) _).setOther (by omega) _
  have t3 : RowAt w2 (w.heap.size + 1 + 1) 58 [iv id, iv s', .slice q' l'.length cap', iv 0, iv 0] := by rw [hw2]; exact (s3.set 1 _).set 2 _
  have ho2 : Own w2 W4.heap.size 3 q' (l'.map iv) := by rw [hw2]; exact (hrs.setOther (by omega) _).setOther (by omega) _
  have HW2 := Lib.hid hw2
  have HT := Lib.hid (And.intro hfw (And.intro t1 (And.intro t2 (And.intro t3 (And.intro ho2 hsz4)))))
  clear s1 s2 s3 g1 g2 g3 hrs hf hf4 HS hsz4 hw2 hfw t1 t2 t3 ho2
  go_wp2_with fail
  rw [← HW2.out]
  clear HW2 k13 k14 k31 k32 z31 z32
  refine (toBlock_any bf bc _).mono ?_
  rintro e w3 ⟨rfl, hb⟩
  obtain ⟨hfw, t1, t2, t3, ho2, hsz4⟩ := HT.out
  have u2 := t2.keep hb
  have u3 := t3.keep hb
  have k20 := u2.cell (i := 0) rfl
  have z20 := u2.frozen 0
  have k21 := u2.cell (i := 1) rfl
  have z21 := u2.frozen 1
  have k22 := u2.cell (i := 2) rfl
  have z22 := u2.frozen 2
  have k23 := u2.cell (i := 3) rfl
  have z23 := u2.frozen 3
  have k24 := u2.cell (i := 4) rfl
  have z24 := u2.frozen 4
  have k30 := u3.cell (i := 0) rfl
  have z30 := u3.frozen 0
  have k31 := u3.cell (i := 1) rfl
  have z31 := u3.frozen 1
  have k32 := u3.cell (i := 2) rfl
  have z32 := u3.frozen 2
  have k33 := u3.cell (i := 3) rfl
  have z33 := u3.frozen 3
  have k34 := u3.cell (i := 4) rfl
  have z34 := u3.frozen 4
  have HR := Lib.hid (And.intro (ho2.keep hb) (And.intro (fstep hfw hb) hsz4))
  clear u2 u3 t1 t2 t3 ho2 hfw hb HT hsz4
  go_wp2
  obtain ⟨hrs, hf, hsz4⟩ := HR.out
  refine bodyPost_ret (v := .agg #[.int .i64 id, .int .i64 s', .slice q' l'.length cap', .int .i64 bf, .int .i64 bc]) (by simp [results, Tryz.results48, go_sem, k20, k21, k22, k23, k24]) rfl ?_
  refine ⟨⟨id, ⟨s', q', cap', l'⟩, bf, bc⟩, rfl, rfl, ?_, ?_⟩
  · refine Own.mono (base := W4.heap.size) ?_ (by omega)
    repeat (refine Own.setOther ?_ (by omega) _)
    exact hrs
  · repeat (refine fset ?_ (by omega) _)
    exact hf
end Go.Proofs.YtjhaoonacjebpaaGreatDoor

/- Contracts: lists of lights copied and compared. -/
namespace Go.Proofs.YtjhaoonacjebpaaGreatDoor
open Go.RowKit Go.PlainAid

theorem setL_rowL (f : LL → List Value) (l' : List LL) (a : LL) (m : Nat) (z : List Value) (hf : ∀ x, (f x).length = z.length) : setL (l'.flatMap f ++ zs z (m + 1)) (l'.length * z.length) (f a) = (l' ++ [a]).flatMap f ++ zs z m := by
  have hl : (l'.flatMap f).length = l'.length * z.length := flat_len f z.length hf l'
  rw [zs_succ, ← hl, setL_mid (f a) _ z _ (by rw [hf])]
  simp

set_option maxHeartbeats 4000000 in
theorem toLightS_any (p : Option Addr) (cap : Nat) (l : List LL) (w : World) (hI : Lts w p l) (hs : LtsSmall l) :
    Calls Tryz.prog 19 #[.slice p l.length cap] w fun e w' =>
      ∃ l' : List LL, e = .returned (.slice (some ⟨w.heap.size, 0, none⟩) l'.length l'.length) ∧ l'.map LL.val = l.map LL.val ∧ RowAt w' w.heap.size 58 (l'.flatMap llC) ∧ (∀ x ∈ l', Own w' (w.heap.size + 1) 3 x.r.q (x.r.fibs.map iv)) ∧ Fresh w w' := by
  have hn := hs.1
  have HSM := Lib.hid hs
  clear hs
  have hmk := mkRow (z := zLt) Tryz.underlying35 infoLt rfl (by decide) l.length (by omega) (by omega)
  go_enter Tryz.func19, Tryz.ntmps19
  go_wp2
  go_loopw [4] (fun i wr => ∃ (k : Nat) (l' : List LL), k ≤ l.length ∧ l'.length = k ∧ i = .int .i64 k ∧ l'.map LL.val = (l.take k).map LL.val ∧ RowAt wr w.heap.size 58 (l'.flatMap llC ++ zs zLt (l.length - k)) ∧ (∀ x ∈ l', Own wr (w.heap.size + 1) 3 x.r.q (x.r.fibs.map iv)) ∧ Fresh w wr)
    (fun i _ => l.length - (intOf i).toNat)
  case atStart => exact ⟨0, [], Nat.zero_le _, rfl, rfl, rfl, RowAt.new w _ _, fun x hx => by simp at hx, fnew (frefl _) _⟩
  case round =>
    obtain ⟨k, l', hk, hlk, rfl, hval, hrow, hown, hf⟩ := hrel
    have HLK := Lib.hid hlk
    have HV := Lib.hid hval
    have HO := Lib.hid hown
    clear hlk hval hown
    by_cases hlt : k < l.length
    · obtain ⟨b, off, x, rfl, hx, hmem, hints, hc0, hc1, hc2, hc3, hc4⟩ := (hI.keep hf).at hlt
      have hltz : (k : Int) < (l.length : Int) := by omega
      have hsm := HSM.out.2 x hmem
      have HX := Lib.hid hx
      have HR := Lib.hid hrow
      have HF := Lib.hid hf
      have HIN := Lib.hid hints
      have hlw := hrow.lt
      clear hx hmem hrow hf hints
      go_wp2_with fail
      refine (toLight_any x _ HIN.out hsm).mono ?_
      rintro e w1 ⟨y, rfl, hyv, hyo, hb1⟩
      have hr1 := HR.out.keep hb1
      have gz : ∀ r v, zLt[r]? = some v → (l'.flatMap llC ++ zs zLt (l.length - k))[k * 5 + r]? = some v := by
        intro r v hv
        have hr : r < 5 := by
          rcases Nat.lt_or_ge r 5 with h | h
          · exact h
          · rw [List.getElem?_eq_none (by simpa using h)] at hv; cases hv
        have hl : (l'.flatMap llC).length = k * 5 := by rw [flat_len llC 5 (fun _ => rfl), HLK.out]
        rw [List.getElem?_append_right (by omega), hl, Nat.add_sub_cancel_left]
        have := zs_get zLt (l.length - k) 0 r (by omega) (by simpa using hr)
        rw [Nat.zero_mul, Nat.zero_add] at this
        rw [this]; exact hv
      have hcell0 : w1.cell? ⟨w.heap.size, k * 5, none⟩ = some (.int .i64 0) := hr1.cell (gz 0 _ rfl)
      have hcell1 : w1.cell? ⟨w.heap.size, k * 5 + 1, none⟩ = some (.int .i64 0) := hr1.cell (gz 1 _ rfl)
      have hcell2 : w1.cell? ⟨w.heap.size, k * 5 + 2, none⟩ = some (.slice none 0 0) := hr1.cell (gz 2 _ rfl)
      have hcell3 : w1.cell? ⟨w.heap.size, k * 5 + 3, none⟩ = some (.int .i64 0) := hr1.cell (gz 3 _ rfl)
      have hcell4 : w1.cell? ⟨w.heap.size, k * 5 + 4, none⟩ = some (.int .i64 0) := hr1.cell (gz 4 _ rfl)
      have hfr0 := hr1.frozen (k * 5)
      have hfr1 := hr1.frozen (k * 5 + 1)
      have hfr2 := hr1.frozen (k * 5 + 2)
      have hfr3 := hr1.frozen (k * 5 + 3)
      have hfr4 := hr1.frozen (k * 5 + 4)
      have HR1 := Lib.hid hr1
      have HYV := Lib.hid hyv
      have HYO := Lib.hid hyo
      have HB1 := Lib.hid hb1
      clear hr1 gz hyv hyo hb1
      go_wp2
      go_roundw
      case rel =>
        refine ⟨k + 1, l' ++ [y], by omega, by simp [HLK.out], by go_num, ?_, ?_, ?_, fset (fset (fset (fset (fset (fstep HF.out HB1.out) (Nat.le_refl _) _) (Nat.le_refl _) _) (Nat.le_refl _) _) (Nat.le_refl _) _) (Nat.le_refl _) _⟩
        · rw [List.map_append, HV.out, List.take_add_one, HX.out, List.map_append]
          simp [HYV.out]
        · have := (((((HR1.out.set (k * 5) (iv y.id)).set (k * 5 + 1) (iv y.r.start)).set (k * 5 + 2) (.slice y.r.q y.r.fibs.length y.r.cap)).set (k * 5 + 3) (iv y.f)).set (k * 5 + 4) (iv y.c))
          have e : l.length - k = (l.length - (k + 1)) + 1 := by omega
          have hs := setL_rowL llC l' y (l.length - (k + 1)) zLt (fun _ => rfl)
          rw [HLK.out] at hs
          rw [e] at this
          have hs' : ((((((l'.flatMap llC ++ zs zLt (l.length - (k + 1) + 1)).set (k * 5) (iv y.id)).set (k * 5 + 1) (iv y.r.start)).set (k * 5 + 2) (.slice y.r.q y.r.fibs.length y.r.cap)).set (k * 5 + 3) (iv y.f)).set (k * 5 + 4) (iv y.c)) = (l' ++ [y]).flatMap llC ++ zs zLt (l.length - (k + 1)) := hs
          rw [hs'] at this
          exact this
        · intro z hz
          rw [List.mem_append] at hz
          refine Own.setOther (Own.setOther (Own.setOther (Own.setOther (Own.setOther (?_) (by omega) _) (by omega) _) (by omega) _) (by omega) _) (by omega) _
          rcases hz with hz | hz
          · exact (HO.out z hz).keep HB1.out
          · simp at hz; subst hz
            exact HYO.out.mono (by omega)
      case measure => simp [intOf]; omega
    · have hkn : k = l.length := by omega
      have hltz : ¬ (k : Int) < (l.length : Int) := by omega
      have HR := Lib.hid hrow
      have HF := Lib.hid hf
      clear hrow hf
      go_wp2
      go_ret
      refine ⟨l', ?_, ?_, ?_, HO.out, HF.out⟩
      · rw [HLK.out, hkn]; rfl
      · have := HV.out; rw [hkn, List.take_length] at this; exact this
      · have := HR.out
        rw [hkn, Nat.sub_self, zs_zero, List.append_nil] at this
        exact this

set_option maxHeartbeats 2000000 in
set_option maxRecDepth 100000 in
theorem eqLightS_same (p q : Option Addr) (c d : Nat) (l l' : List LL) (w : World) (hv : l'.map LL.val = l.map LL.val) (hx : Lts w p l) (hy : Lts w q l') (hs : LtsSmall l) :
    Calls Tryz.prog 26 #[.slice p l.length c, .slice q l'.length d] w fun e w' => e = .returned (.bool true) ∧ Fresh w w' := by
  have hlen : l'.length = l.length := by have := congrArg List.length hv; simpa using this
  have hn := hs.1
  have HSM := Lib.hid hs
  have HV := Lib.hid hv
  rw [hlen]
  have HLE := Lib.hid hlen
  clear hs hv hlen
  go_enter Tryz.func26, Tryz.ntmps26
  go_wp2
  go_loopw [5] (fun i wr => ∃ k : Nat, k ≤ l.length ∧ i = .int .i64 k ∧ Fresh w wr) (fun i _ => l.length - (intOf i).toNat)
  case atStart => exact ⟨0, Nat.zero_le _, rfl, frefl _⟩
  case round =>
    obtain ⟨k, hk, rfl, hf⟩ := hrel
    by_cases hlt : k < l.length
    · obtain ⟨b, off, x, rfl, hx0, hm, hi, hc0, hc1, hc2, hc3, hc4⟩ := (hx.keep hf).at hlt
      obtain ⟨b', off', y, rfl, hy0, _, hi', hc0', hc1', hc2', hc3', hc4'⟩ := (hy.keep hf).at (by rw [HLE.out]; exact hlt)
      have hxy : x.val = y.val := by
        have := congrArg (fun l => l[k]?) HV.out
        simp only [List.getElem?_map, hx0, hy0, Option.map_some, Option.some.injEq] at this
        exact this.symm
      have hsm := HSM.out.2 x hm
      have hltz : (k : Int) < (l.length : Int) := by omega
      have HF := Lib.hid hf
      have HI := Lib.hid hi
      have HI' := Lib.hid hi'
      have HXY := Lib.hid hxy
      clear hx0 hy0 hx hy hf hi hi' hxy hm
      go_wp2
      go_still_tail 8, (by kernel_rfl)
      change wpList _ _ _ _ _ wr.drew
      have HF2 : Hid (Fresh w wr.drew) := fdrew HF.out
      have HI2 := Lib.hid (HI.out.keep (fdrew (frefl wr)))
      have HI2' := Lib.hid (HI'.out.keep (fdrew (frefl wr)))
      generalize wr.drew = w2 at HF2 HI2 HI2'
      go_wp2_with fail
      refine (eqLight_same x y _ HXY.out HI2.out HI2'.out hsm).mono ?_
      rintro e w3 ⟨rfl, hb3⟩
      have HF3 := Lib.hid (fstep HF2.out hb3)
      clear hb3
      go_wp2
      go_roundw
      case rel => exact ⟨k + 1, by omega, by go_num, HF3.out⟩
      case measure => simp [intOf]; omega
    · have hkn : k = l.length := by omega
      have hltz : ¬ (k : Int) < (l.length : Int) := by omega
      have HF := Lib.hid hf
      clear hf
      go_wp2
      go_ret
      exact ⟨rfl, HF.out⟩
end Go.Proofs.YtjhaoonacjebpaaGreatDoor

/- Contracts: plans: sizes, copies, comparisons; plans as one value. -/
namespace Go.Proofs.YtjhaoonacjebpaaGreatDoor
open Go.RowKit Go.PlainAid

/-- A plan as such. -/
structure PlanV where
  net : Net
  lights : List LtV
def PlRaw (w : World) (v : Value) (P : PlanV) : Prop := ∃ q m c p k d r e l, v = .agg #[.slice q m c, .slice p k d, .slice r l.length e] ∧ NetRaw w (.agg #[.slice q m c, .slice p k d]) P.net ∧ Lts w r l ∧ l.length ≤ 9223372036854775807 ∧ (∀ x ∈ l, x.r.fibs.length ≤ 9223372036854775807) ∧ P.lights = l.map LL.val ∧ l.length ≤ e ∧ e ≤ 9223372036854775807
def LtSm (L : List LtV) : Prop := L.length ≤ 1048576 ∧ ∀ x ∈ L, x.2.1.2.length ≤ 1048576
def PlSmall (P : PlanV) : Prop := NetSmall P.net ∧ LtSm P.lights
def PlIn (w : World) (v : Value) (P : PlanV) : Prop := ∃ q m c p k d r e l, v = .agg #[.slice q m c, .slice p k d, .slice r l.length e] ∧ NetIn w (.agg #[.slice q m c, .slice p k d]) P.net ∧ Lts w r l ∧ LtsSmall l ∧ P.lights = l.map LL.val ∧ l.length ≤ e ∧ e ≤ 9223372036854775807
theorem PlRaw.keep {w w' : World} {v : Value} {P : PlanV} (h : PlRaw w v P) (hb : Fresh w w') : PlRaw w' v P := by
  obtain ⟨q, m, c, p, k, d, r, e, l, h1, h2, h3, h4⟩ := h
  exact ⟨q, m, c, p, k, d, r, e, l, h1, h2.keep hb, h3.keep hb, h4⟩
theorem PlIn.keep {w w' : World} {v : Value} {P : PlanV} (h : PlIn w v P) (hb : Fresh w w') : PlIn w' v P := by
  obtain ⟨q, m, c, p, k, d, r, e, l, h1, h2, h3, h4⟩ := h
  exact ⟨q, m, c, p, k, d, r, e, l, h1, h2.keep hb, h3.keep hb, h4⟩
theorem PlRaw.shape {w : World} {v : Value} {P : PlanV} (h : PlRaw w v P) : ∃ q m c p k d r i e, v = .agg #[.slice q m c, .slice p k d, .slice r i e] := by
  obtain ⟨q, m, c, p, k, d, r, e, l, h1, _⟩ := h
  exact ⟨_, _, _, _, _, _, _, _, _, h1⟩
theorem PlIn.shape {w : World} {v : Value} {P : PlanV} (h : PlIn w v P) : ∃ q m c p k d r i e, v = .agg #[.slice q m c, .slice p k d, .slice r i e] := by
  obtain ⟨q, m, c, p, k, d, r, e, l, h1, _⟩ := h
  exact ⟨_, _, _, _, _, _, _, _, _, h1⟩
theorem ltsm_of {l : List LL} (h : LtsSmall l) : LtSm (l.map LL.val) := by
  refine ⟨by simpa using h.1, fun x hx => ?_⟩
  obtain ⟨y, hy, rfl⟩ := List.mem_map.1 hx
  exact h.2 y hy
theorem ltsm_to {l : List LL} (h : LtSm (l.map LL.val)) : LtsSmall l := ⟨by simpa using h.1, fun x hx => h.2 x.val (List.mem_map_of_mem hx)⟩
theorem PlRaw.small {w : World} {v : Value} {P : PlanV} (h : PlRaw w v P) (hs : PlSmall P) : PlIn w v P := by
  obtain ⟨q, m, c, p, k, d, r, e, l, h1, h2, h3, _, _, h4, h5⟩ := h
  exact ⟨q, m, c, p, k, d, r, e, l, h1, h2.small hs.1, h3, ltsm_to (by rw [← h4]; exact hs.2), h4, h5⟩
theorem PlIn.isSmall {w : World} {v : Value} {P : PlanV} (h : PlIn w v P) : PlSmall P := by
  obtain ⟨q, m, c, p, k, d, r, e, l, h1, h2, h3, h4, h5, _⟩ := h
  exact ⟨h2.isSmall, by rw [h5]; exact ltsm_of h4⟩

set_option maxHeartbeats 1000000 in
theorem szPlan_k (v : Value) (P : PlanV) (left : Int) (w : World) (h : PlRaw w v P) (h0 : 0 ≤ left) (h1 : left ≤ 1048576) : Calls Tryz.prog 5 #[v, .int .i64 left] w (SzOut w left (PlSmall P)) := by
  obtain ⟨N, L⟩ := P
  obtain ⟨q, m, c, p, k, d, r, e, l, rfl, hN, hL, n1, n2, hv, _⟩ := h
  simp only at hN hv ⊢
  have HL := Lib.hid hL
  have HN := Lib.hid hN
  have H2 := Lib.hid n2
  have HV := Lib.hid hv
  clear hL hN n2 hv
  go_enter Tryz.func5, Tryz.ntmps5
  go_wp2_with fail
  refine (szNetwork_any _ N left _ (HN.out.keep (fnew (frefl _) _)) h0 h1).mono ?_
  rintro e1 w1 ⟨r1, rfl, r0, r1', hr, hf⟩
  have hb1 := box hf 2 (v := .slice r l.length e) rfl
  have HW := Lib.hid (fstep (fnew (frefl _) _) hf)
  have HR := Lib.hid hr
  clear hf hr
  by_cases hneg : r1 < 0
  · go_wp2
    go_ret
    exact ⟨_, rfl, by omega, by omega, fun h => by omega, HW.out⟩
  · go_wp2_with fail
    refine (szLightS_any r e l r1 _ (HL.out.keep HW.out) n1 H2.out (by omega) (by omega)).mono ?_
    rintro e2 w2 ⟨r2, rfl, r20, r21, hr2, hf2⟩
    have HW2 := Lib.hid (fstep HW.out hf2)
    have HR2 := Lib.hid hr2
    clear hf2 hr2
    by_cases hneg2 : r2 < 0
    · go_wp2
      go_ret
      exact ⟨_, rfl, by omega, by omega, fun h => by omega, HW2.out⟩
    · go_wp2
      go_ret
      exact ⟨_, rfl, by omega, by omega, fun h => ⟨HR.out (by omega), by rw [HV.out]; exact ltsm_of (HR2.out h)⟩, HW2.out⟩

set_option maxHeartbeats 1000000 in
theorem eqPlan_k (v v' : Value) (P : PlanV) (w : World) (h : PlIn w v P) (h' : PlIn w v' P) : Calls Tryz.prog 9 #[v, v'] w fun e w' => e = .returned (.bool true) ∧ Fresh w w' := by
  obtain ⟨N, L⟩ := P
  obtain ⟨q, m, c, p, k, d, r, e, l, rfl, hN, hL, hs, hv, _⟩ := h
  obtain ⟨q', m', c', p', k', d', r', e', l', rfl, hN', hL', hs', hv', _⟩ := h'
  simp only at hN hv hN' hv' ⊢
  have hvv : l'.map LL.val = l.map LL.val := by rw [← hv, ← hv']
  obtain ⟨W2, hW2, hsz2, hf2, r1, r2⟩ := two_rows w [.slice q m c, .slice p k d, .slice r l.length e] [.slice q' m' c', .slice p' k' d', .slice r' l'.length e'] 37 37
  have HR1 := Lib.hid r1
  have HR2 := Lib.hid r2
  have HN := Lib.hid hN
  have HN' := Lib.hid hN'
  have HL := Lib.hid hL
  have HL' := Lib.hid hL'
  have HS := Lib.hid hs
  have HVV := Lib.hid hvv
  have HF2 := Lib.hid hf2
  have HW2 := Lib.hid hW2
  clear hW2 hsz2 hf2 r1 r2 hN hN' hL hL' hs hs' hv hv' hvv
  go_enter Tryz.func9, Tryz.ntmps9
  go_wp2_with fail
  rw [← HW2.out]
  refine (eqNetwork_same _ _ N _ (HN.out.keep HF2.out) (HN'.out.keep HF2.out)).mono ?_
  rintro e1 w1 ⟨rfl, hf⟩
  have k12 := (HR1.out.keep hf).cell (i := 2) rfl
  have k22 := (HR2.out.keep hf).cell (i := 2) rfl
  have HF := Lib.hid (fstep HF2.out hf)
  clear hf
  go_wp2_with fail
  refine (eqLightS_same r r' e e' l l' _ HVV.out (HL.out.keep HF.out) (HL'.out.keep HF.out) HS.out).mono ?_
  rintro e2 w2 ⟨rfl, hf⟩
  have HF := Lib.hid (fstep HF.out hf)
  clear hf
  go_wp2
  go_ret
  exact ⟨rfl, HF.out⟩

theorem NetOwn.setOther {w : World} {base : Nat} {v : Value} {n : Net} (h : NetOwn w base v n) {b o : Nat} (hb : b < base) (u : Value) : NetOwn (w.setCell ⟨b, o, none⟩ u) base v n := by
  obtain ⟨g1, g2, h1, h2, h3, h4, h5⟩ := h
  exact ⟨g1, g2, h1, h2, h3, h4.setOther (by omega) u, h5.setOther (by omega) u⟩
set_option maxHeartbeats 2000000 in
theorem toPlan_k (v : Value) (P : PlanV) (w : World) (h : PlIn w v P) : Calls Tryz.prog 7 #[v] w fun e w' => ∃ v', e = .returned v' ∧ PlIn w' v' P ∧ Fresh w w' := by
  have HSM := Lib.hid h.isSmall
  obtain ⟨N, L⟩ := P
  obtain ⟨q, m, c, p, k, d, r, e, l, rfl, hN, hL, hs, hv, _⟩ := h
  simp only at hN hv ⊢
  obtain ⟨W3, hW3, hsz3, hf3, r1, r2, r3⟩ := three_rows w [.slice q m c, .slice p k d, .slice r l.length e] [.slice none 0 0, .slice none 0 0, .slice none 0 0] [.slice none 0 0, .slice none 0 0, .slice none 0 0] 28 37 37
  have HW3 := Lib.hid hW3
  have HN := Lib.hid hN
  have HL := Lib.hid hL
  have HSL := Lib.hid hs
  have HV := Lib.hid hv
  have HS := Lib.hid (And.intro hsz3 (And.intro hf3 (And.intro r1 (And.intro r2 r3))))
  clear hW3 hsz3 hf3 r1 r2 r3 hN hL hs hv
  go_enter Tryz.func7, Tryz.ntmps7
  go_wp2_with fail
  rw [← HW3.out]
  clear HW3
  obtain ⟨hsz3, hf3, r1, r2, r3⟩ := HS.out
  refine (toNetwork_any _ N _ (HN.out.keep hf3)).mono ?_
  rintro e1 w1 ⟨v1, rfl, hn1, hf⟩
  obtain ⟨g1, g2, hv1, _⟩ := id hn1
  subst hv1
  have s1 := r1.keep hf
  have s2 := r2.keep hf
  have s3 := r3.keep hf
  have k12 := s1.cell (i := 2) rfl
  have k30 := s3.cell (i := 0) rfl
  have k31 := s3.cell (i := 1) rfl
  have z30 := s3.frozen 0
  have z31 := s3.frozen 1
  obtain ⟨w2, hw2⟩ : ∃ w2, w2 = (w1.setCell ⟨w.heap.size + 1 + 1, 0, none⟩ (.slice (some ⟨g1, 0, none⟩) N.nodes.length N.nodes.length)).setCell ⟨w.heap.size + 1 + 1, 1, none⟩ (.slice (some ⟨g2, 0, none⟩) N.fibers.length N.fibers.length) := ⟨_, rfl⟩
  have hfw : Fresh w w2 := by rw [hw2]; exact fset (fset (fstep hf3 hf) (by omega) _) (by omega) _
  have hn2 : NetOwn w2 W3.heap.size (.agg #[.slice (some ⟨g1, 0, none⟩) N.nodes.length N.nodes.length, .slice (some ⟨g2, 0, none⟩) N.fibers.length N.fibers.length]) N := by
    rw [hw2]; exact (hn1.setOther (by omega) _).setOther (by omega) _
  have t2 : RowAt w2 (w.heap.size + 1) 37 [.slice none 0 0, .slice none 0 0, .slice none 0 0] := by rw [hw2]; exact (s2.setOther (by omega) _).setOther (by omega) _
  have t3 : RowAt w2 (w.heap.size + 1 + 1) 37 [.slice (some ⟨g1, 0, none⟩) N.nodes.length N.nodes.length, .slice (some ⟨g2, 0, none⟩) N.fibers.length N.fibers.length, .slice none 0 0] := by rw [hw2]; exact (s3.set 0 _).set 1 _
  have HW2 := Lib.hid hw2
  have HT := Lib.hid (And.intro hfw (And.intro hn2 (And.intro t2 (And.intro t3 hsz3))))
  clear s1 s2 s3 r1 r2 r3 hn1 hf hf3 HS hsz3 hw2 hfw hn2 t2 t3
  go_wp2_with fail
  rw [← HW2.out]
  clear HW2 k12 k30 k31 z30 z31
  refine (toLightS_any r e l _ (HL.out.keep HT.out.1) HSL.out).mono ?_
  rintro e2 w3 ⟨l', rfl, hlv, hrow, hown, hb⟩
  obtain ⟨hfw, hn2, t2, t3, hsz3⟩ := HT.out
  have hlt := t3.lt
  have u2 := t2.keep hb
  have u3 := t3.keep hb
  have k20 := u2.cell (i := 0) rfl
  have k21 := u2.cell (i := 1) rfl
  have k22 := u2.cell (i := 2) rfl
  have z20 := u2.frozen 0
  have z21 := u2.frozen 1
  have z22 := u2.frozen 2
  have k30 := u3.cell (i := 0) rfl
  have k31 := u3.cell (i := 1) rfl
  have k32 := u3.cell (i := 2) rfl
  have z32 := u3.frozen 2
  have HR := Lib.hid (And.intro (hn2.keep hb) (And.intro (fstep hfw hb) (And.intro hlv (And.intro hrow (And.intro hown (And.intro hlt hsz3))))))
  clear u2 u3 t2 t3 hn2 hfw hb HT hsz3 hlv hrow hown hlt
  go_wp2
  obtain ⟨hn3, hf, hlv, hrow, hown, hlt, hsz3⟩ := HR.out
  refine bodyPost_ret (v := .agg #[.slice (some ⟨g1, 0, none⟩) N.nodes.length N.nodes.length, .slice (some ⟨g2, 0, none⟩) N.fibers.length N.fibers.length, .slice (some ⟨w2.heap.size, 0, none⟩) l'.length l'.length]) (by simp [results, Tryz.results7, go_sem, k20, k21, k22]) rfl ?_
  refine ⟨_, rfl, ⟨_, _, _, _, _, _, some ⟨w2.heap.size, 0, none⟩, l'.length, l', rfl, ?_, ⟨?_, ?_⟩, ?_, ?_, Nat.le_refl _, ?_⟩, ?_⟩
  · refine NetOwn.net (base := W3.heap.size) ?_ HSM.out.1
    repeat (refine NetOwn.setOther ?_ (by omega) _)
    exact hn3
  · refine RowAt.cells (t := 58) ?_
    repeat (refine RowAt.setOther ?_ (by omega) _)
    exact hrow
  · intro x hx
    refine Own.cells (base := w2.heap.size + 1) (t := 3) ?_
    repeat (refine Own.setOther ?_ (by omega) _)
    exact hown x hx
  · exact ltsm_to (by rw [hlv, ← HV.out]; exact HSM.out.2)
  · rw [hlv]; exact HV.out
  · have h1 := HSM.out.2.1
    have h2 := congrArg List.length hlv
    have h3 := congrArg List.length HV.out
    simp only [List.length_map] at h1 h2 h3
    omega
  · repeat (refine fset ?_ (by omega) _)
    exact hf
end Go.Proofs.YtjhaoonacjebpaaGreatDoor

/- Contracts: lights: valid ones, colliding ones, both sides. -/
namespace Go.Proofs.YtjhaoonacjebpaaGreatDoor
open Go.RowKit Go.PlainAid

def ltB (n : Net) (x : LtV) : Bool := inB x.1 1 999 && isVis n x.2.1.1 x.2.1.2 && goodB x.2.2.1 x.2.2.2
def meetB (x y : Int × Int) : Bool := !(bits BinOp.and IntKind.i64 (mkF x.1 x.2) (mkF y.1 y.2) == 0)
def colB (x y : LtV) : Bool := meetB x.2.2 y.2.2 && usesB x.2.1.2 y.2.1.2

theorem any_step {a : List Int} {f : Int → Bool} {k : Nat} {x : Int} (h : ∀ j y, j < k → a[j]? = some y → f y = false) (hx : a[k]? = some x) (hf : f x = false) : ∀ j y, j < k + 1 → a[j]? = some y → f y = false := by
  intro j y hj hy
  rcases Nat.lt_or_ge j k with h' | h'
  · exact h j y h' hy
  · have : j = k := by omega
    subst this; rw [hx] at hy; cases hy; exact hf
theorem any_none {a : List Int} {f : Int → Bool} {k : Nat} (hk : a.length ≤ k) (h : ∀ j y, j < k → a[j]? = some y → f y = false) : a.any f = false := by
  rw [List.any_eq_false]
  intro x hx
  obtain ⟨j, hj, rfl⟩ := List.getElem_of_mem hx
  simp [h j _ (by omega) (List.getElem?_eq_getElem hj)]

set_option maxHeartbeats 1000000 in
theorem l4Uses_any (s : Int) (q q' : Option Addr) (cap cap' : Nat) (l g : List Int) (w : World) (hl : Ints w q l) (hg : Ints w q' g) (hn : l.length ≤ 1048576) (hm : g.length ≤ 1048576) :
    Calls Tryz.prog 86 #[.agg #[.int .i64 s, .slice q l.length cap], .slice q' g.length cap'] w fun e w' => e = .returned (.bool (usesB l g)) ∧ Fresh w w' := by
  obtain ⟨W1, hW1⟩ : ∃ W1, W1 = w.alloc (.cells #[.int .i64 s, .slice q l.length cap] 54) := ⟨_, rfl⟩
  have hf : Fresh w W1 := by rw [hW1]; exact fnew (frefl _) _
  have c1 : W1.cell? ⟨w.heap.size, 1, none⟩ = some (.slice q l.length cap) := by rw [hW1]; exact (RowAt.new w 54 [.int .i64 s, .slice q l.length cap]).cell (i := 1) rfl
  have HF := Lib.hid hf
  have HL := Lib.hid (hl.keep hf)
  have HG := Lib.hid (hg.keep hf)
  have HW := Lib.hid hW1
  have HC := Lib.hid c1
  clear hf c1 hW1 hl hg
  go_enter Tryz.func86, Tryz.ntmps86
  go_wp2
  rw [← HW.out]
  have c1 := HC.out
  clear HW
  go_loop [5] (fun i => ∃ k : Nat, k ≤ l.length ∧ i = .int .i64 k ∧ ∀ j y, j < k → l[j]? = some y → decide (y ∈ g) = false) (fun i => l.length - (intOf i).toNat)
  case atStart => exact ⟨0, Nat.zero_le _, rfl, fun j y hj => by omega⟩
  case round =>
    obtain ⟨k, hk, rfl, hall⟩ := hrel
    have HA := Lib.hid hall
    clear hall
    by_cases hlt : k < l.length
    · have hltz : (k : Int) < (l.length : Int) := by omega
      obtain ⟨b, off, x, rfl, hx, hc⟩ := HL.out.at hlt
      by_cases hmem : x ∈ g
      · have hdm : decide (x ∈ g) = true := decide_eq_true hmem
        have HE : Hid (usesB l g = true) := by show usesB l g = true; exact List.any_eq_true.2 ⟨x, List.mem_of_getElem? hx, hdm⟩
        clear hx hmem
        go_wp2_with (go_at_call 122; refine (l1Has_any _ _ _ _ _ HG.out (by omega)).mono ?_; rintro e w2 ⟨rfl, rfl⟩)
        go_ret
        exact ⟨ret_bool HE.out.symm, HF.out⟩
      · have hdm : decide (x ∈ g) = false := decide_eq_false hmem
        have HN := Lib.hid (any_step (f := fun y => decide (y ∈ g)) HA.out hx hdm)
        clear hx hmem
        go_wp2_with (go_at_call 122; refine (l1Has_any _ _ _ _ _ HG.out (by omega)).mono ?_; rintro e w2 ⟨rfl, rfl⟩)
        go_round
        case rel => exact ⟨k + 1, by omega, by go_num, HN.out⟩
        case measure => simp [intOf]; omega
    · have hkn : k = l.length := by omega
      have hltz : ¬ (k : Int) < (l.length : Int) := by omega
      have HE : Hid (usesB l g = false) := any_none (f := fun y => decide (y ∈ g)) (by omega) HA.out
      go_wp2
      go_ret
      exact ⟨ret_bool HE.out.symm, HF.out⟩

set_option maxHeartbeats 2000000 in
theorem isLight_any (v : Value) (n : Net) (x : LL) (w : World) (h : NetIn w v n) (hI : Ints w x.r.q x.r.fibs) (hn : x.r.fibs.length ≤ 1048576) :
    Calls Tryz.prog 50 #[v, llV x] w fun e w' => e = .returned (.bool (ltB n x.val)) ∧ Fresh w w' := by
  have HN := Lib.hid h
  have HI := Lib.hid hI
  obtain ⟨qn, m, c, p, k, d, rfl⟩ := h.shape
  obtain ⟨id, ⟨s, q, cap, l⟩, bf, bc⟩ := x
  simp only at hn ⊢
  obtain ⟨W2, hW2, hsz2, hf2, r1, r2⟩ := two_rows w [.slice qn m c, .slice p k d] [.int .i64 id, .int .i64 s, .slice q l.length cap, .int .i64 bf, .int .i64 bc] 34 58
  have HW2 := Lib.hid hW2
  have HF2 := Lib.hid hf2
  have HR2 := Lib.hid r2
  clear hW2 hsz2 hf2 r1 r2 hI h
  go_enter Tryz.func50, Tryz.ntmps50
  go_wp2_with fail
  rw [← HW2.out]
  clear HW2
  refine (visited_any _ n s q cap l _ (HN.out.keep HF2.out) (HI.out.keep HF2.out) hn).mono ?_
  rintro e w1 ⟨p2, cap2, xs, rfl, hb, _⟩
  have k0 := (HR2.out.keep hb).cell (i := 0) rfl
  have k3 := (HR2.out.keep hb).cell (i := 3) rfl
  have k4 := (HR2.out.keep hb).cell (i := 4) rfl
  have HF := Lib.hid (fstep HF2.out hb)
  clear hb
  cases hv : (visR n.nodes.length n.fibers s l).isSome
  · have HE : Hid (ltB n (id, (s, l), (bf, bc)) = false) := by show ltB n _ = false; simp [ltB, isVis, hv]
    go_wp2
    go_ret
    exact ⟨ret_bool HE.out.symm, HF.out⟩
  · cases hid : inB id 1 999
    · have HE : Hid (ltB n (id, (s, l), (bf, bc)) = false) := by show ltB n _ = false; simp [ltB, hid]
      go_wp2_with (go_at_call 96; refine (within_any _ _ _ _).mono ?_; rintro e w' ⟨rfl, rfl⟩)
      go_ret
      exact ⟨ret_bool HE.out.symm, HF.out⟩
    · have HE : Hid (ltB n (id, (s, l), (bf, bc)) = goodB bf bc) := by show ltB n _ = _; simp [ltB, hid, isVis, hv]
      go_wp2_with (first | (go_at_call 96; refine (within_any _ _ _ _).mono ?_; rintro e w' ⟨rfl, rfl⟩) | (go_at_call 98; refine (implIsValidBlock_any _ _ _).mono ?_; rintro e w4 ⟨rfl, hb4⟩))
      go_ret
      exact ⟨ret_bool HE.out.symm, fstep HF.out hb4⟩

set_option maxHeartbeats 2000000 in
theorem l9Light_any (v : Value) (n : Net) (x : LL) (w : World) (h : NetIn w v n) (hnet : netB n = true) (hI : Ints w x.r.q x.r.fibs) (hn : x.r.fibs.length ≤ 1048576) :
    Calls Tryz.prog 42 #[v, llV x] w fun e w' => e = .returned (.bool (ltB n x.val)) ∧ Fresh w w' := by
  have HN := Lib.hid h
  have HI := Lib.hid hI
  have HNET := Lib.hid hnet
  obtain ⟨qn, m, c, p, k, d, rfl⟩ := h.shape
  obtain ⟨id, ⟨s, q, cap, l⟩, bf, bc⟩ := x
  simp only at hn ⊢
  obtain ⟨W2, hW2, hsz2, hf2, r1, r2⟩ := two_rows w [.slice qn m c, .slice p k d] [.int .i64 id, .int .i64 s, .slice q l.length cap, .int .i64 bf, .int .i64 bc] 34 58
  have HW2 := Lib.hid hW2
  have HF2 := Lib.hid hf2
  have HR2 := Lib.hid r2
  clear hW2 hsz2 hf2 r1 r2 hI h hnet
  cases hid : inB id 1 999
  · have HE : Hid (ltB n (id, (s, l), (bf, bc)) = false) := by show ltB n _ = false; simp [ltB, hid]
    go_enter Tryz.func42, Tryz.ntmps42
    go_wp2_with (go_at_call 79; refine (l1In_any _ _ _ _).mono ?_; rintro e w' ⟨rfl, rfl⟩)
    go_ret
    exact ⟨ret_bool HE.out.symm, by rw [HW2.out] at HF2; exact HF2.out⟩
  · go_enter Tryz.func42, Tryz.ntmps42
    go_wp2_with (go_at_call 79; refine (l1In_any _ _ _ _).mono ?_; rintro e w' ⟨rfl, rfl⟩)
    rw [← HW2.out]
    clear HW2
    refine (l4Good_any _ n s q cap l _ (HN.out.keep HF2.out) (HI.out.keep HF2.out) hn).mono ?_
    rintro e w1 ⟨rfl, hb⟩
    rw [HNET.out, Bool.true_and]
    have k3 := (HR2.out.keep hb).cell (i := 3) rfl
    have k4 := (HR2.out.keep hb).cell (i := 4) rfl
    have HF := Lib.hid (fstep HF2.out hb)
    clear hb
    cases hv : isVis n s l
    · have HE : Hid (ltB n (id, (s, l), (bf, bc)) = false) := by show ltB n _ = false; simp [ltB, hv]
      go_wp2
      go_ret
      exact ⟨ret_bool HE.out.symm, HF.out⟩
    · have HE : Hid (ltB n (id, (s, l), (bf, bc)) = goodB bf bc) := by show ltB n _ = _; simp [ltB, hid, hv]
      go_wp2_with (go_at_call 85; refine (l8Good_any _ _ _).mono ?_; rintro e w4 ⟨rfl, hb4⟩)
      go_ret
      exact ⟨ret_bool HE.out.symm, fstep HF.out hb4⟩
end Go.Proofs.YtjhaoonacjebpaaGreatDoor

/- Contracts: colliding lights, both sides. -/
namespace Go.Proofs.YtjhaoonacjebpaaGreatDoor
open Go.RowKit Go.PlainAid

set_option maxHeartbeats 4000000 in
theorem collide_any (x y : LL) (w : World) (hx : goodB x.f x.c = true) (hy : goodB y.f y.c = true) (hI : Ints w x.r.q x.r.fibs) (hJ : Ints w y.r.q y.r.fibs) (hn : x.r.fibs.length ≤ 1048576) (hm : y.r.fibs.length ≤ 1048576) :
    Calls Tryz.prog 53 #[llV x, llV y] w fun e w' => e = .returned (.bool (colB x.val y.val)) ∧ Fresh w w' := by
  obtain ⟨id, ⟨s, q, cap, l⟩, bf, bc⟩ := x
  obtain ⟨id', ⟨s', q', cap', l'⟩, bf', bc'⟩ := y
  simp only at hx hy hI hJ hn hm ⊢
  obtain ⟨g1, g2, g3⟩ := goodB_iff.1 hx
  obtain ⟨g1', g2', g3'⟩ := goodB_iff.1 hy
  obtain ⟨W2, hW2, hsz2, hf2, r1, r2⟩ := two_rows w [.int .i64 id, .int .i64 s, .slice q l.length cap, .int .i64 bf, .int .i64 bc] [.int .i64 id', .int .i64 s', .slice q' l'.length cap', .int .i64 bf', .int .i64 bc'] 58 58
  have HW2 := Lib.hid hW2
  have HF2 := Lib.hid hf2
  have HI := Lib.hid (hI.keep hf2)
  have HJ := Lib.hid (hJ.keep hf2)
  have a2 := r1.cell (i := 2) rfl
  have a3 := r1.cell (i := 3) rfl
  have a4 := r1.cell (i := 4) rfl
  have b2 := r2.cell (i := 2) rfl
  have b3 := r2.cell (i := 3) rfl
  have b4 := r2.cell (i := 4) rfl
  have HS : Hid (Fresh W2 W2 ∧ W2.cell? ⟨w.heap.size, 2, none⟩ = some (.slice q l.length cap) ∧ W2.cell? ⟨w.heap.size, 3, none⟩ = some (.int .i64 bf) ∧ W2.cell? ⟨w.heap.size, 4, none⟩ = some (.int .i64 bc) ∧ W2.cell? ⟨w.heap.size + 1, 2, none⟩ = some (.slice q' l'.length cap') ∧ W2.cell? ⟨w.heap.size + 1, 3, none⟩ = some (.int .i64 bf') ∧ W2.cell? ⟨w.heap.size + 1, 4, none⟩ = some (.int .i64 bc')) := ⟨frefl _, a2, a3, a4, b2, b3, b4⟩
  clear hW2 hsz2 hf2 r1 r2 hI hJ hx hy a2 a3 a4 b2 b3 b4
  cases hmt : bits BinOp.and IntKind.i64 (mkF bf bc) (mkF bf' bc') == 0
  · have HE : Hid (colB (id, (s, l), (bf, bc)) (id', (s', l'), (bf', bc')) = usesB l l') := by show colB _ _ = _; simp only [colB, meetB, hmt]; rfl
    have hdn : (bits BinOp.and IntKind.i64 (mkF bf bc) (mkF bf' bc') != 0) = true := by rw [bne, hmt]; rfl
    go_enter Tryz.func53, Tryz.ntmps53
    go_wp2
    rw [← HW2.out]
    clear HW2
    have HSS := HS.out
    clear HS
    go_region_held3 (fun w' => Fresh W2 w' ∧ w'.cell? ⟨w.heap.size, 2, none⟩ = some (.slice q l.length cap) ∧ w'.cell? ⟨w.heap.size, 3, none⟩ = some (.int .i64 bf) ∧ w'.cell? ⟨w.heap.size, 4, none⟩ = some (.int .i64 bc) ∧ w'.cell? ⟨w.heap.size + 1, 2, none⟩ = some (.slice q' l'.length cap') ∧ w'.cell? ⟨w.heap.size + 1, 3, none⟩ = some (.int .i64 bf') ∧ w'.cell? ⟨w.heap.size + 1, 4, none⟩ = some (.int .i64 bc'))
      (first | assumption | exact keepc6 (by assumption) (by assumption) | exact keepc6 (by assumption) (fdrew (frefl _)) | exact keepc6 (by assumption) (frefl _))
      (first | (go_at_call 100; refine (maskOf_any _ _ _ (by omega) (by omega) (by omega)).mono ?_; rintro e w10 ⟨rfl, hb10⟩) | (go_at_call 101; refine (common_any q q' cap cap' l l' _ (HI.out.keep (And.left (by assumption))) (HJ.out.keep (And.left (by assumption))) (by omega) (by omega)).mono ?_; rintro e w11 ⟨pc, cc, rfl, _, hb11⟩))
    have hfe : Fresh W2 w11 := And.left (by assumption)
    have HFE := Lib.hid (fstep HF2.out hfe)
    clear hfe
    have HCP : Hid (decide (0 < (commonF l l').length) = usesB l l') := by
      show _ = _
      have := common_pos l l'
      rw [← this]; simp only [Int.natCast_pos]
    go_wp2
    go_ret
    exact ⟨ret_bool (by rw [HE.out, ← HCP.out]), HFE.out⟩
  · have HE : Hid (colB (id, (s, l), (bf, bc)) (id', (s', l'), (bf', bc')) = false) := by show colB _ _ = _; simp only [colB, meetB, hmt]; rfl
    have hdn : (bits BinOp.and IntKind.i64 (mkF bf bc) (mkF bf' bc') != 0) = false := by rw [bne, hmt]; rfl
    obtain ⟨_, a2, a3, a4, b2, b3, b4⟩ := HS.out
    have i3 := fun xa : After W2 => akeep a3 xa
    have i4 := fun xa : After W2 => akeep a4 xa
    have j3 := fun xa : After W2 => akeep b3 xa
    have j4 := fun xa : After W2 => akeep b4 xa
    clear a2 a3 a4 b2 b3 b4 HS
    go_enter Tryz.func53, Tryz.ntmps53
    go_wp2
    rw [← HW2.out]
    clear HW2
    refine wp_region_after (by kernel_rfl) (by kernel_rfl) ?_
    repeat (go_big_quiet_step ((go_at_call 100; exact after_call (maskOf_any _ _ _ (by omega) (by omega) (by omega)))))
    refine wpQuiet_nil ?_
    rintro _ ⟨xa, rfl⟩
    go_wp2
    go_ret
    exact ⟨ret_bool HE.out.symm, fstep HF2.out xa.h⟩

set_option maxHeartbeats 4000000 in
theorem l9Collide_any (x y : LL) (w : World) (hx : goodB x.f x.c = true) (hy : goodB y.f y.c = true) (hI : Ints w x.r.q x.r.fibs) (hJ : Ints w y.r.q y.r.fibs) (hn : x.r.fibs.length ≤ 1048576) (hm : y.r.fibs.length ≤ 1048576) :
    Calls Tryz.prog 43 #[llV x, llV y] w fun e w' => e = .returned (.bool (colB x.val y.val)) ∧ Fresh w w' := by
  obtain ⟨id, ⟨s, q, cap, l⟩, bf, bc⟩ := x
  obtain ⟨id', ⟨s', q', cap', l'⟩, bf', bc'⟩ := y
  simp only at hx hy hI hJ hn hm ⊢
  obtain ⟨g1, g2, g3⟩ := goodB_iff.1 hx
  obtain ⟨g1', g2', g3'⟩ := goodB_iff.1 hy
  obtain ⟨W2, hW2, hsz2, hf2, r1, r2⟩ := two_rows w [.int .i64 id, .int .i64 s, .slice q l.length cap, .int .i64 bf, .int .i64 bc] [.int .i64 id', .int .i64 s', .slice q' l'.length cap', .int .i64 bf', .int .i64 bc'] 58 58
  have HW2 := Lib.hid hW2
  have HF2 := Lib.hid hf2
  have HI := Lib.hid (hI.keep hf2)
  have HJ := Lib.hid (hJ.keep hf2)
  have a1 := r1.cell (i := 1) rfl
  have a2 := r1.cell (i := 2) rfl
  have a3 := r1.cell (i := 3) rfl
  have a4 := r1.cell (i := 4) rfl
  have b2 := r2.cell (i := 2) rfl
  have b3 := r2.cell (i := 3) rfl
  have b4 := r2.cell (i := 4) rfl
  have i1 := fun xa : After W2 => akeep a1 xa
  have i2 := fun xa : After W2 => akeep a2 xa
  have i3 := fun xa : After W2 => akeep a3 xa
  have i4 := fun xa : After W2 => akeep a4 xa
  have j2 := fun xa : After W2 => akeep b2 xa
  have j3 := fun xa : After W2 => akeep b3 xa
  have j4 := fun xa : After W2 => akeep b4 xa
  have HU : Hid (∀ xa : After W2, Calls Tryz.prog 86 #[.agg #[.int .i64 s, .slice q l.length cap], .slice q' l'.length cap'] xa.w' fun e w' => e = .returned (.bool (usesB l l')) ∧ Fresh xa.w' w') :=
    fun xa => l4Uses_any s q q' cap cap' l l' xa.w' (HI.out.keep xa.h) (HJ.out.keep xa.h) hn hm
  clear hW2 hsz2 hf2 r1 r2 hI hJ hx hy a1 a2 a3 a4 b2 b3 b4
  cases hu : usesB l l'
  · have HE : Hid (colB (id, (s, l), (bf, bc)) (id', (s', l'), (bf', bc')) = false) := by show colB _ _ = _; simp only [colB, hu, Bool.and_false]
    rw [hu] at HU
    go_enter Tryz.func43, Tryz.ntmps43
    go_wp2
    rw [← HW2.out]
    clear HW2
    refine wp_region_after (by kernel_rfl) (by kernel_rfl) ?_
    repeat (go_big_quiet_step ((first | (go_at_call 86; exact after_call (HU.out _)) | (go_at_call 87; exact after_call (l8Bits_any _ _ _ (by omega) (by omega) (by omega))))))
    refine wpQuiet_nil ?_
    rintro _ ⟨xa, rfl⟩
    go_wp2
    go_ret
    exact ⟨ret_bool HE.out.symm, fstep HF2.out xa.h⟩
  · rw [hu] at HU
    have HE : Hid (colB (id, (s, l), (bf, bc)) (id', (s', l'), (bf', bc')) = (bits BinOp.and IntKind.i64 (mkF bf bc) (mkF bf' bc') != 0)) := by show colB _ _ = _; simp only [colB, meetB, hu, Bool.and_true]; rfl
    clear hu
    go_enter Tryz.func43, Tryz.ntmps43
    go_wp2
    rw [← HW2.out]
    clear HW2
    refine wp_region_after (by kernel_rfl) (by kernel_rfl) ?_
    repeat (go_big_quiet_step ((first | (go_at_call 86; exact after_call (HU.out _)) | (go_at_call 87; exact after_call (l8Bits_any _ _ _ (by omega) (by omega) (by omega))))))
    refine wpQuiet_nil ?_
    rintro _ ⟨xa, rfl⟩
    go_wp2
    go_ret
    exact ⟨ret_bool HE.out.symm, fstep HF2.out xa.h⟩
end Go.Proofs.YtjhaoonacjebpaaGreatDoor

/- Contracts: valid plans, the reference's side. -/
namespace Go.Proofs.YtjhaoonacjebpaaGreatDoor
open Go.RowKit Go.PlainAid

theorem ltB_good {n : Net} {x : LtV} (h : ltB n x = true) : goodB x.2.2.1 x.2.2.2 = true := by unfold ltB at h; simp only [Bool.and_eq_true] at h; exact h.2
/-- What is asked of the light at an index. -/
def orderB (L : List LtV) (k : Nat) (x : LtV) : Bool := match L[k - 1]? with | some y => decide (k = 0) || decide (y.1 < x.1) | none => true
def ltAt (n : Net) (L : List LtV) (k : Nat) : Bool := match L[k]? with | some x => ltB n x && orderB L k x && !((L.take k).any fun y => colB y x) | none => true
def planB (P : PlanV) : Bool := netB P.net && decide (P.lights.length ≤ 12) && (List.range P.lights.length).all (ltAt P.net P.lights)
theorem ltAt_of {n : Net} {L : List LtV} {k : Nat} {x : LtV} (hx : L[k]? = some x) : ltAt n L k = (ltB n x && orderB L k x && !((L.take k).any fun y => colB y x)) := by unfold ltAt; rw [hx]
theorem order_first (L : List LtV) (x : LtV) : orderB L 0 x = true := by unfold orderB; split <;> simp
theorem order_next {L : List LtV} {k : Nat} {x y : LtV} (h0 : 0 < k) (hy : L[k - 1]? = some y) : orderB L k x = decide (y.1 < x.1) := by
  unfold orderB; rw [hy]; simp only
  rw [decide_eq_false (by omega), Bool.false_or]
theorem planB_net {P : PlanV} (h : netB P.net = false) : planB P = false := by unfold planB; rw [h]; rfl
theorem planB_long {P : PlanV} (h : ¬ P.lights.length ≤ 12) : planB P = false := by unfold planB; rw [decide_eq_false h]; simp
theorem planB_bad {P : PlanV} {k : Nat} (hk : k < P.lights.length) (h : ltAt P.net P.lights k = false) : planB P = false := by unfold planB; rw [rall_bad hk h, Bool.and_false]
theorem planB_end {P : PlanV} (h1 : netB P.net = true) (h2 : P.lights.length ≤ 12) (h : ∀ k, k < P.lights.length → ltAt P.net P.lights k = true) : planB P = true := by unfold planB; rw [h1, decide_eq_true h2, rall_end h]; rfl
theorem planB_at {P : PlanV} (h : planB P = true) : netB P.net = true ∧ P.lights.length ≤ 12 ∧ ∀ k, k < P.lights.length → ltAt P.net P.lights k = true := by
  unfold planB at h
  simp only [Bool.and_eq_true, decide_eq_true_eq, List.all_eq_true, List.mem_range] at h
  exact ⟨h.1.1, h.1.2, h.2⟩
theorem ltAt_good {n : Net} {L : List LtV} {k : Nat} {x : LtV} (hx : L[k]? = some x) (h : ltAt n L k = true) : ltB n x = true := by
  rw [ltAt_of hx] at h; simp only [Bool.and_eq_true] at h; exact h.1.1
theorem planB_lt {P : PlanV} (h : planB P = true) : ∀ x ∈ P.lights, ltB P.net x = true := by
  intro x hx
  obtain ⟨_, _, h3⟩ := planB_at h
  obtain ⟨k, hk, rfl⟩ := List.getElem_of_mem hx
  exact ltAt_good (List.getElem?_eq_getElem hk) (h3 k hk)
theorem okStepL {f : Nat → Bool} {k : Nat} (h : ∀ j, j < k → f j = true) (hk : f k = true) : ∀ j, j < k + 1 → f j = true := by
  intro j hj
  rcases Nat.lt_or_ge j k with h' | h'
  · exact h j h'
  · have : j = k := by omega
    subst this; exact hk
theorem lval_at {l : List LL} {L : List LtV} (hv : L = l.map LL.val) {k : Nat} {x : LL} (hx : l[k]? = some x) : L[k]? = some x.val := by rw [hv]; simp [hx]
theorem Lts.prev {w : World} {b off : Nat} {l : List LL} (h : Lts w (some ⟨b, off, none⟩) l) {k : Nat} (hk : k < l.length) (h0 : 0 < k) :
    ∃ y, l[k - 1]? = some y ∧ w.cell? ⟨b, off + (k - 1) * 5, none⟩ = some (.int .i64 y.id) := by
  obtain ⟨b', off', y, hp, hy, _, _, hc, _⟩ := h.at (k := k - 1) (by omega)
  cases hp
  exact ⟨y, hy, hc⟩
theorem noneYet {L : List LtV} {x : LtV} {j : Nat} {y : LtV} (h : ∀ i y, i < j → L[i]? = some y → colB y x = false) (hy : L[j]? = some y) (hc : colB y x = false) : ∀ i y, i < j + 1 → L[i]? = some y → colB y x = false := by
  intro i z hi hz
  rcases Nat.lt_or_ge i j with h' | h'
  · exact h i z h' hz
  · have : i = j := by omega
    subst this; rw [hy] at hz; cases hz; exact hc
theorem noneAll {L : List LtV} {x : LtV} {k : Nat} (h : ∀ i y, i < k → L[i]? = some y → colB y x = false) : ((L.take k).any fun y => colB y x) = false := by
  rw [List.any_eq_false]
  intro y hy
  obtain ⟨i, hi, rfl⟩ := List.getElem_of_mem hy
  have hl : (L.take k).length ≤ k := by simp; omega
  have := h i (L.take k)[i] (by omega) (by rw [List.getElem_take]; exact List.getElem?_eq_getElem (by simp at hi; omega))
  rw [List.getElem_take] at this ⊢
  simp [this]
theorem someOne {L : List LtV} {x y : LtV} {k j : Nat} (hj : j < k) (hy : L[j]? = some y) (hc : colB y x = true) : ((L.take k).any fun y => colB y x) = true := by
  rw [List.any_eq_true]
  exact ⟨y, List.mem_of_getElem? (i := j) (by rw [List.getElem?_take_of_lt hj]; exact hy), hc⟩

set_option maxHeartbeats 4000000 in
set_option maxRecDepth 100000 in
theorem l9Good_any (v : Value) (P : PlanV) (w : World) (h : PlIn w v P) : Calls Tryz.prog 16 #[v] w fun e w' => e = .returned (.bool (planB P)) ∧ Fresh w w' := by
  obtain ⟨N, L⟩ := P
  obtain ⟨q, m, c, p, k0, d, r, e0, l, rfl, hN, hL, hs, hv, he1, he2⟩ := h
  simp only at hN hv ⊢
  have hn := hs.1
  have hlen : L.length = l.length := by rw [hv]; simp
  have HLEN := Lib.hid hlen
  have HN := Lib.hid hN
  have HL := Lib.hid hL
  have HSM := Lib.hid hs
  have HV := Lib.hid hv
  obtain ⟨W1, hW1⟩ : ∃ W1, W1 = w.alloc (.cells #[.slice q m c, .slice p k0 d, .slice r l.length e0] 37) := ⟨_, rfl⟩
  have HF1 : Hid (Fresh w W1) := by show Fresh w W1; rw [hW1]; exact fnew (frefl _) _
  have HR1 : Hid (RowAt W1 w.heap.size 37 [.slice q m c, .slice p k0 d, .slice r l.length e0]) := by show RowAt W1 _ _ _; rw [hW1]; exact RowAt.new w _ _
  have HW1 := Lib.hid hW1
  clear hW1 hN hL hs hv hlen
  go_enter Tryz.func16, Tryz.ntmps16
  go_wp2_with fail
  rw [← HW1.out]
  clear HW1
  refine (l2Good_any _ N _ (HN.out.keep HF1.out)).mono ?_
  rintro e w1 ⟨rfl, hb⟩
  have HF := Lib.hid (fstep HF1.out hb)
  have HR := Lib.hid (HR1.out.keep hb)
  have a2 := HR.out.cell (i := 2) rfl
  clear hb HF1 HR1
  cases hnet : netB N
  · have HE := Lib.hid (planB_net (P := ⟨N, L⟩) hnet)
    go_wp2
    go_ret
    exact ⟨ret_bool HE.out.symm, HF.out⟩
  · by_cases h12 : l.length ≤ 12
    · have hd : decide (12 < (l.length : Int)) = false := decide_eq_false (by omega)
      have HNET := Lib.hid hnet
      clear hnet
      go_wp2
      clear a2 hd
      go_loopw [3] (fun i wr => ∃ k : Nat, k ≤ l.length ∧ i = .int .i64 k ∧ (∀ j, j < k → ltAt N L j = true) ∧ Fresh w1 wr) (fun i _ => l.length - (intOf i).toNat)
      case atStart => exact ⟨0, Nat.zero_le _, rfl, fun j hj => by omega, frefl _⟩
      case round =>
        obtain ⟨wo, rfl⟩ : ∃ wo : World, wo = wr := ⟨_, rfl⟩
        obtain ⟨k, hk, rfl, hall, hf⟩ := hrel
        have HA := Lib.hid hall
        have HFR := Lib.hid hf
        have HW := Lib.hid (fstep HF.out hf)
        have b0 := (HR.out.keep hf).cell (i := 0) rfl
        have b1 := (HR.out.keep hf).cell (i := 1) rfl
        have b2 := (HR.out.keep hf).cell (i := 2) rfl
        clear hall hf
        by_cases hlt : k < l.length
        · have hltz : (k : Int) < (l.length : Int) := by omega
          have HLL := Lib.hid (HL.out.keep HW.out)
          obtain ⟨b, off, x, hr, hx, hm, hi, hc0, hc1, hc2, hc3, hc4⟩ := HLL.out.at hlt
          subst hr
          have hxv := lval_at HV.out hx
          have hsm := HSM.out.2 x hm
          have i0 := fun xa : After wo => akeep b0 xa
          have i1 := fun xa : After wo => akeep b1 xa
          have i2 := fun xa : After wo => akeep b2 xa
          have j0 := fun xa : After wo => akeep hc0 xa
          have j1 := fun xa : After wo => akeep hc1 xa
          have j2 := fun xa : After wo => akeep hc2 xa
          have j3 := fun xa : After wo => akeep hc3 xa
          have j4 := fun xa : After wo => akeep hc4 xa
          have HG : Hid (∀ xa : After wo, Calls Tryz.prog 42 #[.agg #[.slice q m c, .slice p k0 d], .agg #[iv x.id, iv x.r.start, .slice x.r.q x.r.fibs.length x.r.cap, iv x.f, iv x.c]] xa.w' fun e w' => e = .returned (.bool (ltB N x.val)) ∧ Fresh xa.w' w') :=
            fun xa => l9Light_any _ N x xa.w' (HN.out.keep (fstep HW.out xa.h)) HNET.out (hi.keep xa.h) hsm
          have HI := Lib.hid hi
          clear hi hm
          cases hlb : ltB N x.val
          · rw [hlb] at HG
            have HE := Lib.hid (planB_bad (P := ⟨N, L⟩) (k := k) (by rw [HLEN.out]; exact hlt) (by show ltAt N L k = false; rw [ltAt_of hxv, hlb]; rfl))
            clear hx hxv hlb
            go_wp2
            refine wp_region_after (by kernel_rfl) (by kernel_rfl) ?_
            repeat (go_big_quiet_step ((go_at_call 42; exact after_call (HG.out _))))
            refine wpQuiet_nil ?_
            rintro _ ⟨xa, rfl⟩
            go_wp2
            go_ret
            exact ⟨ret_bool HE.out.symm, fstep HW.out xa.h⟩
          · rw [hlb] at HG
            have hgx := ltB_good hlb
            have HGX := Lib.hid hgx
            clear hgx
            have hord : (¬ 0 < k ∧ orderB L k x.val = true) ∨ (0 < k ∧ ∃ y : LL, l[k - 1]? = some y ∧ wo.cell? ⟨b, off + (k - 1) * 5, none⟩ = some (.int .i64 y.id) ∧ orderB L k x.val = decide (y.id < x.id)) := by
              by_cases h0 : 0 < k
              · obtain ⟨y, hy, hc⟩ := HLL.out.prev hlt h0
                exact Or.inr ⟨h0, y, hy, hc, order_next h0 (lval_at HV.out hy)⟩
              · have : k = 0 := by omega
                subst this
                exact Or.inl ⟨h0, order_first L _⟩
            have hgo : ∀ (K : World → Prop), True := fun _ => trivial
            clear hgo
            rcases hord with ⟨h0, ho⟩ | ⟨h0, y, hy, hyc, ho⟩
            · have hd0 : decide ((0 : Int) < (k : Int)) = false := decide_eq_false (by omega)
              have HO := Lib.hid ho
              have HLB := Lib.hid hlb
              have HX := Lib.hid hx
              have HXV := Lib.hid hxv
              clear ho hlb hx hxv
              go_wp2
              refine wp_region_after (by kernel_rfl) (by kernel_rfl) ?_
              repeat (go_big_quiet_step ((go_at_call 42; exact after_call (HG.out _))))
              refine wpQuiet_nil ?_
              rintro _ ⟨xa, rfl⟩
              have hk0 : k = 0 := by omega
              subst hk0
              have HE : Hid (ltAt N L 0 = true) := by show ltAt N L 0 = true; rw [ltAt_of HXV.out, HLB.out, HO.out]; simp
              go_wp2
              go_loopw [4] (fun i wr => i = .int .i64 0 ∧ Fresh w1 wr) (fun _ _ => 0)
              case atStart => exact ⟨rfl, fstep HFR.out xa.h⟩
              case round =>
                obtain ⟨rfl, hf2⟩ := hrel
                have HF2 := Lib.hid hf2
                clear hf2
                go_wp2
                go_roundw
                case rel => exact ⟨0 + 1, by omega, by go_num, okStepL HA.out HE.out, HF2.out⟩
                case measure => simp [intOf]; omega
            · have hd0 : decide ((0 : Int) < (k : Int)) = true := decide_eq_true (by omega)
              have hz1 : (k : Int) - 1 < (l.length : Int) := by omega
              have hz2 : (k : Int) - 1 ≤ (l.length : Int) := by omega
              have hz3 : 0 ≤ (k : Int) - 1 := by omega
              have l0 := fun xa : After wo => akeep hyc xa
              have HO := Lib.hid ho
              have HLB := Lib.hid hlb
              have HX := Lib.hid hx
              have HXV := Lib.hid hxv
              clear ho hlb hx hxv hy
              by_cases hlo : y.id < x.id
              · have hdl : decide (x.id ≤ y.id) = false := decide_eq_false (by omega)
                have HO2 : Hid (orderB L k x.val = true) := by show _ = _; rw [HO.out, decide_eq_true hlo]
                go_wp2
                refine wp_region_after (by kernel_rfl) (by kernel_rfl) ?_
                repeat (go_big_quiet_step ((go_at_call 42; exact after_call (HG.out _))))
                refine wpQuiet_nil ?_
                rintro _ ⟨xa, rfl⟩
                clear hlo hyc l0
                go_wp2
                go_loopw [4] (fun i wr => ∃ j : Nat, j ≤ k ∧ i = .int .i64 j ∧ (∀ i y, i < j → L[i]? = some y → colB y x.val = false) ∧ Fresh w1 wr) (fun i _ => k - (intOf i).toNat)
                case atStart => exact ⟨0, Nat.zero_le _, rfl, fun i y hi => by omega, fstep HFR.out xa.h⟩
                case round =>
                  clear b0 b1 b2 hc0 hc1 hc2 hc3 hc4 i0 i1 i2 j0 j1 j2 j3 j4
                  obtain ⟨j, hj, rfl, hnone, hf2⟩ := hrel
                  have HNO := Lib.hid hnone
                  have HF2 := Lib.hid hf2
                  have HW2 := Lib.hid (fstep HF.out hf2)
                  have b2 := (HR.out.keep hf2).cell (i := 2) rfl
                  clear hnone hf2
                  by_cases hjk : j < k
                  · have hjz : (j : Int) < (k : Int) := by omega
                    have hjl : (j : Int) < (l.length : Int) := by omega
                    obtain ⟨bb, oo, z, hp, hz, hzm, hzi, d0, d1, d2, d3, d4⟩ := (HL.out.keep HW2.out).at (k := j) (by omega)
                    cases hp
                    obtain ⟨bb, oo, x', hp, hx', hxm', hxi', c0, c1, c2, c3, c4⟩ := (HL.out.keep HW2.out).at (k := k) hlt
                    cases hp
                    rw [HX.out] at hx'
                    cases hx'
                    have hzv := lval_at HV.out hz
                    have HZV := Lib.hid hzv
                    have hgz := ltB_good (ltAt_good hzv (HA.out j hjk))
                    have HGZ := Lib.hid hgz
                    have hsz := HSM.out.2 z hzm
                    have HZI := Lib.hid hzi
                    have HXI := Lib.hid hxi'
                    clear hz hzm hzi hxm' hxi' hzv hgz
                    go_wp2
                    go_still_tail 10, (by kernel_rfl)
                    change wpList _ _ _ _ _ wr.drew
                    have hb := fdrew (frefl wr)
                    replace HW2 := Lib.hid (fstep HW2.out hb)
                    replace HF2 := Lib.hid (fstep HF2.out hb)
                    replace HZI := Lib.hid (HZI.out.keep hb)
                    replace HXI := Lib.hid (HXI.out.keep hb)
                    clear hb b2 c0 c1 c2 c3 c4 d0 d1 d2 d3 d4
                    generalize wr.drew = wd at HW2 HF2 HZI HXI
                    go_wp2_with fail
                    refine (l9Collide_any z x _ HGZ.out HGX.out HZI.out HXI.out hsz hsm).mono ?_
                    rintro e w5 ⟨rfl, hb⟩
                    replace HW2 := Lib.hid (fstep HW2.out hb)
                    replace HF2 := Lib.hid (fstep HF2.out hb)
                    clear hb HZI HXI
                    cases hcol : colB z.val x.val
                    · have HNX := Lib.hid (noneYet HNO.out HZV.out hcol)
                      go_wp2
                      go_roundw
                      case rel => exact ⟨j + 1, by omega, by go_num, HNX.out, HF2.out⟩
                      case measure => simp [intOf]; omega
                    · have HE := Lib.hid (planB_bad (P := ⟨N, L⟩) (k := k) (by rw [HLEN.out]; exact hlt) (by show ltAt N L k = false; rw [ltAt_of HXV.out, someOne hjk HZV.out hcol]; simp))
                      go_wp2
                      go_ret
                      exact ⟨ret_bool HE.out.symm, HW2.out⟩
                  · have hjz : ¬ (j : Int) < (k : Int) := by omega
                    have hjk' : j = k := by omega
                    have HE : Hid (ltAt N L k = true) := by
                      show ltAt N L k = true
                      rw [ltAt_of HXV.out, HLB.out, HO2.out, noneAll (k := k) (by rw [← hjk']; exact HNO.out)]; rfl
                    clear hjk'
                    go_wp2
                    go_roundw
                    case rel => exact ⟨k + 1, by omega, by go_num, okStepL HA.out HE.out, HF2.out⟩
                    case measure => simp [intOf]; omega
              · have hdl : decide (x.id ≤ y.id) = true := decide_eq_true (by omega)
                have HE := Lib.hid (planB_bad (P := ⟨N, L⟩) (k := k) (by rw [HLEN.out]; exact hlt) (by show ltAt N L k = false; rw [ltAt_of HXV.out, HO.out, decide_eq_false hlo]; simp))
                go_wp2
                refine wp_region_after (by kernel_rfl) (by kernel_rfl) ?_
                repeat (go_big_quiet_step ((go_at_call 42; exact after_call (HG.out _))))
                refine wpQuiet_nil ?_
                rintro _ ⟨xa, rfl⟩
                go_wp2
                go_ret
                exact ⟨ret_bool HE.out.symm, fstep HW.out xa.h⟩
        · have hkn : k = l.length := by omega
          have hltz : ¬ (k : Int) < (l.length : Int) := by omega
          have HE := Lib.hid (planB_end (P := ⟨N, L⟩) HNET.out (by show L.length ≤ 12; rw [HLEN.out]; exact h12) (by show ∀ k, k < L.length → ltAt N L k = true; rw [HLEN.out, ← hkn]; exact HA.out))
          clear b0 b1
          go_wp2
          go_ret
          exact ⟨ret_bool HE.out.symm, HW.out⟩
    · have hd : decide (12 < (l.length : Int)) = true := decide_eq_true (by omega)
      have HE := Lib.hid (planB_long (P := ⟨N, L⟩) (by show ¬ L.length ≤ 12; rw [HLEN.out]; exact h12))
      go_wp2
      go_ret
      exact ⟨ret_bool HE.out.symm, HF.out⟩
end Go.Proofs.YtjhaoonacjebpaaGreatDoor

/- Contracts: valid plans, the program's side. -/
namespace Go.Proofs.YtjhaoonacjebpaaGreatDoor
open Go.RowKit Go.PlainAid

theorem Lts.take {w : World} {p : Option Addr} {l : List LL} (h : Lts w p l) (k : Nat) : Lts w p (l.take k) := by
  refine ⟨?_, fun x hx => h.2 x (List.mem_of_mem_take hx)⟩
  rcases h.1 with h1 | ⟨b, off, rfl, hc⟩
  · left
    rw [List.flatMap_eq_nil_iff] at h1 ⊢
    exact fun x hx => h1 x (List.mem_of_mem_take hx)
  · right
    refine ⟨b, off, rfl, fun i v hv => hc i v ?_⟩
    have e : l.flatMap llC = (l.take k).flatMap llC ++ (l.drop k).flatMap llC := by rw [← List.flatMap_append, List.take_append_drop]
    rw [e, List.getElem?_append_left]
    · exact hv
    · rcases Nat.lt_or_ge i ((l.take k).flatMap llC).length with h' | h'
      · exact h'
      · rw [List.getElem?_eq_none h'] at hv; cases hv

set_option maxHeartbeats 2000000 in
theorem ltIndex_any (cl : FuncId) (p : Option Addr) (cap : Nat) (l : List LL) (g : LL → Bool) (cp : Array Value) (w : World) (hl : Lts w p l) (hn : l.length ≤ 1048576) (eg : ∀ args w, (callFunc cl args).run Tryz.prog w = .ok (.enter cl args) w)
    (hcl : ∀ x ∈ l, ∀ (w' : World), Fresh w w' → Calls Tryz.prog cl (#[llV x] ++ cp) w' fun e w'' => e = .returned (.bool (g x)) ∧ Fresh w' w'') :
    Calls Tryz.prog 99 #[.slice p l.length cap, .func (.func cl) #[] cp] w fun e w' => e = .returned (.int .i64 (idxP l g)) ∧ Fresh w w' := by
  have HC := Lib.hid hcl
  clear hcl
  go_enter Tryz.func99, Tryz.ntmps99
  go_wp2
  go_loopw [5, 8] (fun _ i wr => ∃ k : Nat, k ≤ l.length ∧ i = .int .i64 k ∧ (∀ j y, j < k → l[j]? = some y → g y = false) ∧ Fresh w wr) (fun _ i _ => l.length - (intOf i).toNat)
  case atStart => exact ⟨0, Nat.zero_le _, rfl, fun j y hj => by omega, frefl _⟩
  case round =>
    obtain ⟨k, hk, rfl, hall, hf⟩ := hrel
    have HA := Lib.hid hall
    clear hall
    have HF := Lib.hid hf
    by_cases hlt : k < l.length
    · obtain ⟨b, off, x, rfl, hx, hm, _, hc0, hc1, hc2, hc3, hc4⟩ := (hl.keep hf).at hlt
      have hltz : (k : Int) < (l.length : Int) := by omega
      have HM := Lib.hid hm
      clear hf hm
      cases hg : g x
      · have HE := Lib.hid (notP HA.out hx hg)
        clear hx
        go_wp2_with fail
        refine (HC.out x HM.out _ HF.out).mono ?_
        rintro e w1 ⟨rfl, hb⟩
        have HB := Lib.hid (fstep HF.out hb)
        clear hb
        go_wp2
        go_roundw
        case rel => exact ⟨k + 1, by omega, by go_num, HE.out, HB.out⟩
        case measure => simp [intOf]; omega
      · have HE := Lib.hid (idxP_at HA.out hx hg)
        clear hx
        go_wp2_with fail
        refine (HC.out x HM.out _ HF.out).mono ?_
        rintro e w1 ⟨rfl, hb⟩
        have HB := Lib.hid (fstep HF.out hb)
        clear hb
        go_wp2
        go_ret
        exact ⟨ret_int HE.out.symm, HB.out⟩
    · have hkn : k = l.length := by omega
      have hltz : ¬ (k : Int) < (l.length : Int) := by omega
      have HE := Lib.hid (idxP_none (l := l) (f := g) (by rw [← hkn]; exact HA.out))
      clear hf
      go_wp2
      go_ret
      exact ⟨ret_int HE.out.symm, HF.out⟩

set_option maxHeartbeats 1000000 in
theorem ltContains_any (cl : FuncId) (p : Option Addr) (cap : Nat) (l : List LL) (g : LL → Bool) (cp : Array Value) (w : World) (hl : Lts w p l) (hn : l.length ≤ 1048576) (eg : ∀ args w, (callFunc cl args).run Tryz.prog w = .ok (.enter cl args) w)
    (hcl : ∀ x ∈ l, ∀ (w' : World), Fresh w w' → Calls Tryz.prog cl (#[llV x] ++ cp) w' fun e w'' => e = .returned (.bool (g x)) ∧ Fresh w' w'') :
    Calls Tryz.prog 51 #[.slice p l.length cap, .func (.func cl) #[] cp] w fun e w' => e = .returned (.bool (l.any g)) ∧ Fresh w w' := by
  have HI := Lib.hid (ltIndex_any cl p cap l g cp w hl hn eg hcl)
  have HE := Lib.hid (idxP_any l g)
  clear hcl hl
  go_enter Tryz.func51, Tryz.ntmps51
  go_wp2_with fail
  refine HI.out.mono ?_
  rintro e w1 ⟨rfl, hb⟩
  have HB := Lib.hid hb
  clear hb
  go_wp2
  go_ret
  exact ⟨ret_bool HE.out, HB.out⟩

set_option maxHeartbeats 1000000 in
theorem ltClo_any (y x : LL) (h : Nat) (w : World) (hy : goodB y.f y.c = true) (hx : goodB x.f x.c = true) (hJ : Ints w y.r.q y.r.fibs) (hI : Ints w x.r.q x.r.fibs) (hn : y.r.fibs.length ≤ 1048576) (hm : x.r.fibs.length ≤ 1048576)
    (hrow : RowAt w h 58 (llC x)) :
    Calls Tryz.prog 52 #[llV y, .pointer (some ⟨h, 0, none⟩)] w fun e w' => e = .returned (.bool (colB y.val x.val)) ∧ Fresh w w' := by
  have HC := Lib.hid (fun w' (hf : Fresh w w') => collide_any y x w' hy hx (hJ.keep hf) (hI.keep hf) hn hm)
  obtain ⟨W1, hW1⟩ : ∃ W1, W1 = w.alloc (.cells #[iv y.id, iv y.r.start, .slice y.r.q y.r.fibs.length y.r.cap, iv y.f, iv y.c] 58) := ⟨_, rfl⟩
  have hf : Fresh w W1 := by rw [hW1]; exact fnew (frefl _) _
  have hr := hrow.keep hf
  have c0 := hr.cell (i := 0) rfl
  have c1 := hr.cell (i := 1) rfl
  have c2 := hr.cell (i := 2) rfl
  have c3 := hr.cell (i := 3) rfl
  have c4 := hr.cell (i := 4) rfl
  rw [hW1] at c0 c1 c2 c3 c4
  have HF := Lib.hid hf
  have HW := Lib.hid hW1
  clear hf hr hrow hW1 hy hx hJ hI
  go_enter Tryz.func52, Tryz.ntmps52
  go_wp2_with fail
  rw [← HW.out]
  refine (HC.out _ HF.out).mono ?_
  rintro e w1 ⟨rfl, hb⟩
  have HB := Lib.hid (fstep HF.out hb)
  clear hb c0 c1 c2 c3 c4
  go_wp2
  go_ret
  exact ⟨rfl, HB.out⟩
end Go.Proofs.YtjhaoonacjebpaaGreatDoor

/- Contracts: valid plans, the program's side. -/
namespace Go.Proofs.YtjhaoonacjebpaaGreatDoor
open Go.RowKit Go.PlainAid

theorem any_take_val {l : List LL} {L : List LtV} (hv : L = l.map LL.val) (k : Nat) (x : LtV) : ((l.take k).any fun y => colB y.val x) = ((L.take k).any fun y => colB y x) := by
  rw [hv, ← List.map_take, List.any_map]; rfl

set_option maxHeartbeats 4000000 in
set_option maxRecDepth 100000 in
theorem implIsValidPlan_any (v : Value) (P : PlanV) (w : World) (h : PlIn w v P) : Calls Tryz.prog 20 #[v] w fun e w' => e = .returned (.bool (planB P)) ∧ Fresh w w' := by
  obtain ⟨N, L⟩ := P
  obtain ⟨q, m, c, p, k0, d, r, e0, l, rfl, hN, hL, hs, hv, he1, he2⟩ := h
  simp only at hN hv ⊢
  have hn := hs.1
  have hlen : L.length = l.length := by rw [hv]; simp
  have HLEN := Lib.hid hlen
  have HN := Lib.hid hN
  have HL := Lib.hid hL
  have HSM := Lib.hid hs
  have HV := Lib.hid hv
  have hmf : ∀ (fn : Fn) (first cap : Array Value) (w : World), (Instr.makeFunc fn first cap).run Tryz.prog w = .ok (.func fn first cap) w := fun _ _ _ _ => rfl
  obtain ⟨W1, hW1⟩ : ∃ W1, W1 = w.alloc (.cells #[.slice q m c, .slice p k0 d, .slice r l.length e0] 37) := ⟨_, rfl⟩
  have HF1 : Hid (Fresh w W1) := by show Fresh w W1; rw [hW1]; exact fnew (frefl _) _
  have HR1 : Hid (RowAt W1 w.heap.size 37 [.slice q m c, .slice p k0 d, .slice r l.length e0]) := by show RowAt W1 _ _ _; rw [hW1]; exact RowAt.new w _ _
  have HW1 := Lib.hid hW1
  clear hW1 hN hL hs hv hlen
  go_enter Tryz.func20, Tryz.ntmps20
  go_wp2_with fail
  rw [← HW1.out]
  clear HW1
  refine (implIsValidNetwork_any _ N _ (HN.out.keep HF1.out)).mono ?_
  rintro e w1 ⟨rfl, hb⟩
  have HF := Lib.hid (fstep HF1.out hb)
  have HR := Lib.hid (HR1.out.keep hb)
  have a2 := HR.out.cell (i := 2) rfl
  clear hb HF1 HR1
  cases hnet : netB N
  · have HE := Lib.hid (planB_net (P := ⟨N, L⟩) hnet)
    go_wp2
    go_ret
    exact ⟨ret_bool HE.out.symm, HF.out⟩
  · by_cases h12 : l.length ≤ 12
    · have hd : decide (12 < (l.length : Int)) = false := decide_eq_false (by omega)
      have HNET := Lib.hid hnet
      clear hnet
      go_wp2
      clear a2 hd
      go_loopw [18] (fun i wr => ∃ k : Nat, k ≤ l.length ∧ i = .int .i64 k ∧ (∀ j, j < k → ltAt N L j = true) ∧ Fresh w1 wr) (fun i _ => l.length - (intOf i).toNat)
      case atStart => exact ⟨0, Nat.zero_le _, rfl, fun j hj => by omega, frefl _⟩
      case round =>
        obtain ⟨wo, rfl⟩ : ∃ wo : World, wo = wr := ⟨_, rfl⟩
        obtain ⟨k, hk, rfl, hall, hf⟩ := hrel
        have HA := Lib.hid hall
        have HFR := Lib.hid hf
        have HW := Lib.hid (fstep HF.out hf)
        clear hall
        by_cases hlt : k < l.length
        · have hltz : (k : Int) < (l.length : Int) := by omega
          have hkz : (k : Int) ≤ (e0 : Int) := by omega
          have HLL := Lib.hid (HL.out.keep HW.out)
          obtain ⟨b, off, x, hr, hx, hm, hi, hc0, hc1, hc2, hc3, hc4⟩ := HLL.out.at hlt
          subst hr
          have hxv := lval_at HV.out hx
          have hsm := HSM.out.2 x hm
          obtain ⟨W3, hW3⟩ : ∃ W3, W3 = wo.alloc (.cells #[iv x.id, iv x.r.start, .slice x.r.q x.r.fibs.length x.r.cap, iv x.f, iv x.c] 58) := ⟨_, rfl⟩
          have hf3 : Fresh wo W3 := by rw [hW3]; exact fnew (frefl _) _
          have hbx : RowAt W3 wo.heap.size 58 (llC x) := by rw [hW3]; exact RowAt.new wo _ (llC x)
          have b0 := (HR.out.keep (fstep hf hf3)).cell (i := 0) rfl
          have b1 := (HR.out.keep (fstep hf hf3)).cell (i := 1) rfl
          have b2 := (HR.out.keep (fstep hf hf3)).cell (i := 2) rfl
          have x0 := hbx.cell (i := 0) rfl
          have x1 := hbx.cell (i := 1) rfl
          have x2 := hbx.cell (i := 2) rfl
          have x3 := hbx.cell (i := 3) rfl
          have x4 := hbx.cell (i := 4) rfl
          have i0 := fun xa : After W3 => akeep b0 xa
          have i1 := fun xa : After W3 => akeep b1 xa
          have i2 := fun xa : After W3 => akeep b2 xa
          have j0 := fun xa : After W3 => akeep x0 xa
          have j1 := fun xa : After W3 => akeep x1 xa
          have j2 := fun xa : After W3 => akeep x2 xa
          have j3 := fun xa : After W3 => akeep x3 xa
          have j4 := fun xa : After W3 => akeep x4 xa
          have HW3F := Lib.hid (fstep HW.out hf3)
          have HFR3 := Lib.hid (fstep hf hf3)
          have HLL3 := Lib.hid (HLL.out.keep hf3)
          have HG : Hid (∀ xa : After W3, Calls Tryz.prog 50 #[.agg #[.slice q m c, .slice p k0 d], .agg #[iv x.id, iv x.r.start, .slice x.r.q x.r.fibs.length x.r.cap, iv x.f, iv x.c]] xa.w' fun e w' => e = .returned (.bool (ltB N x.val)) ∧ Fresh xa.w' w') :=
            fun xa => isLight_any _ N x xa.w' (HN.out.keep (fstep (fstep HW.out hf3) xa.h)) ((hi.keep hf3).keep xa.h) hsm
          have HI := Lib.hid (hi.keep hf3)
          have HBX := Lib.hid hbx
          have HW3 := Lib.hid hW3
          have HX := Lib.hid hx
          have HXV := Lib.hid hxv
          clear hi hm b0 b1 b2 x0 x1 x2 x3 x4 hbx hf3 hW3 hx hxv hf
          cases hlb : ltB N x.val
          · rw [hlb] at HG
            have HE := Lib.hid (planB_bad (P := ⟨N, L⟩) (k := k) (by rw [HLEN.out]; exact hlt) (by show ltAt N L k = false; rw [ltAt_of HXV.out, hlb]; rfl))
            clear hlb
            go_wp2
            rw [← HW3.out]
            refine wp_region_after (by kernel_rfl) (by kernel_rfl) ?_
            repeat (go_big_quiet_step ((go_at_call 50; exact after_call (HG.out _))))
            refine wpQuiet_nil ?_
            rintro _ ⟨xa, rfl⟩
            go_wp2
            go_ret
            exact ⟨ret_bool HE.out.symm, fstep HW3F.out xa.h⟩
          · rw [hlb] at HG
            have HGX := Lib.hid (ltB_good hlb)
            have HLB := Lib.hid hlb
            clear hlb
            have HC : Hid (∀ xa : After W3, Calls Tryz.prog 51 #[.slice (some ⟨b, off, none⟩) k e0, .func (.func 52) #[] #[.pointer (some ⟨wo.heap.size, 0, none⟩)]] xa.w' fun e w' => e = .returned (.bool ((L.take k).any fun y => colB y x.val)) ∧ Fresh xa.w' w') := by
              intro xa
              have hlk : (l.take k).length = k := by simp; omega
              have := ltContains_any 52 (some ⟨b, off, none⟩) e0 (l.take k) (fun y => colB y.val x.val) #[.pointer (some ⟨wo.heap.size, 0, none⟩)] xa.w' ((HLL3.out.keep xa.h).take k) (by omega) (fun _ _ => rfl)
                (fun y hy w' hfy => by
                  obtain ⟨j, hj, rfl⟩ := List.getElem_of_mem hy
                  have hjk : j < k := by omega
                  have hjl : l[j]? = some (l.take k)[j] := by rw [List.getElem_take]; exact List.getElem?_eq_getElem (by omega)
                  have hyl : (l.take k)[j] ∈ l := List.mem_of_getElem? hjl
                  exact ltClo_any _ x wo.heap.size w' (ltB_good (ltAt_good (lval_at HV.out hjl) (HA.out j hjk))) HGX.out ((HLL3.out.2 _ hyl).keep (fstep xa.h hfy)) (HI.out.keep (fstep xa.h hfy)) (HSM.out.2 _ hyl) hsm (HBX.out.keep (fstep xa.h hfy)))
              rw [hlk, any_take_val HV.out] at this
              exact this
            obtain ⟨cb, hcb⟩ : ∃ cb, cb = ((L.take k).any fun y => colB y x.val) := ⟨_, rfl⟩
            rw [← hcb] at HC
            have HCB := Lib.hid hcb
            clear hcb
            have hord : (¬ 0 < k ∧ orderB L k x.val = true) ∨ (0 < k ∧ ∃ y : LL, l[k - 1]? = some y ∧ W3.cell? ⟨b, off + (k - 1) * 5, none⟩ = some (.int .i64 y.id) ∧ orderB L k x.val = decide (y.id < x.id)) := by
              by_cases h0 : 0 < k
              · obtain ⟨y, hy, hc⟩ := HLL3.out.prev hlt h0
                exact Or.inr ⟨h0, y, hy, hc, order_next h0 (lval_at HV.out hy)⟩
              · have : k = 0 := by omega
                subst this
                exact Or.inl ⟨h0, order_first L _⟩
            rcases hord with ⟨h0, ho⟩ | ⟨h0, y, hy, hyc, ho⟩
            · have hd0 : decide ((0 : Int) < (k : Int)) = false := decide_eq_false (by omega)
              have HO := Lib.hid ho
              clear ho
              cases cb
              · have HE : Hid (ltAt N L k = true) := by show ltAt N L k = true; rw [ltAt_of HXV.out, HLB.out, HO.out, ← HCB.out]; rfl
                go_wp2
                rw [← HW3.out]
                refine wp_region_after (by kernel_rfl) (by kernel_rfl) ?_
                repeat (go_big_quiet_step ((first | (go_at_call 50; exact after_call (HG.out _)) | (go_at_call 51; exact after_call (HC.out _)))))
                refine wpQuiet_nil ?_
                rintro _ ⟨xa, rfl⟩
                go_wp2
                go_roundw
                case rel => exact ⟨k + 1, by omega, by go_num, okStepL HA.out HE.out, fstep HFR3.out xa.h⟩
                case measure => simp [intOf]; omega
              · have HE := Lib.hid (planB_bad (P := ⟨N, L⟩) (k := k) (by rw [HLEN.out]; exact hlt) (by show ltAt N L k = false; rw [ltAt_of HXV.out, ← HCB.out]; simp))
                go_wp2
                rw [← HW3.out]
                refine wp_region_after (by kernel_rfl) (by kernel_rfl) ?_
                repeat (go_big_quiet_step ((first | (go_at_call 50; exact after_call (HG.out _)) | (go_at_call 51; exact after_call (HC.out _)))))
                refine wpQuiet_nil ?_
                rintro _ ⟨xa, rfl⟩
                go_wp2
                go_ret
                exact ⟨ret_bool HE.out.symm, fstep HW3F.out xa.h⟩
            · have hd0 : decide ((0 : Int) < (k : Int)) = true := decide_eq_true (by omega)
              have hz1 : (k : Int) - 1 < (l.length : Int) := by omega
              have hz2 : (k : Int) - 1 ≤ (l.length : Int) := by omega
              have hz3 : 0 ≤ (k : Int) - 1 := by omega
              have l0 := fun xa : After W3 => akeep hyc xa
              have HO := Lib.hid ho
              clear ho hy hyc
              by_cases hlo : y.id < x.id
              · have hdl : decide (x.id ≤ y.id) = false := decide_eq_false (by omega)
                have HO2 : Hid (orderB L k x.val = true) := by show _ = _; rw [HO.out, decide_eq_true hlo]
                clear hlo
                cases cb
                · have HE : Hid (ltAt N L k = true) := by show ltAt N L k = true; rw [ltAt_of HXV.out, HLB.out, HO2.out, ← HCB.out]; rfl
                  go_wp2
                  rw [← HW3.out]
                  refine wp_region_after (by kernel_rfl) (by kernel_rfl) ?_
                  repeat (go_big_quiet_step ((first | (go_at_call 50; exact after_call (HG.out _)) | (go_at_call 51; exact after_call (HC.out _)))))
                  refine wpQuiet_nil ?_
                  rintro _ ⟨xa, rfl⟩
                  go_wp2
                  go_roundw
                  case rel => exact ⟨k + 1, by omega, by go_num, okStepL HA.out HE.out, fstep HFR3.out xa.h⟩
                  case measure => simp [intOf]; omega
                · have HE := Lib.hid (planB_bad (P := ⟨N, L⟩) (k := k) (by rw [HLEN.out]; exact hlt) (by show ltAt N L k = false; rw [ltAt_of HXV.out, ← HCB.out]; simp))
                  go_wp2
                  rw [← HW3.out]
                  refine wp_region_after (by kernel_rfl) (by kernel_rfl) ?_
                  repeat (go_big_quiet_step ((first | (go_at_call 50; exact after_call (HG.out _)) | (go_at_call 51; exact after_call (HC.out _)))))
                  refine wpQuiet_nil ?_
                  rintro _ ⟨xa, rfl⟩
                  go_wp2
                  go_ret
                  exact ⟨ret_bool HE.out.symm, fstep HW3F.out xa.h⟩
              · have hdl : decide (x.id ≤ y.id) = true := decide_eq_true (by omega)
                have HE := Lib.hid (planB_bad (P := ⟨N, L⟩) (k := k) (by rw [HLEN.out]; exact hlt) (by show ltAt N L k = false; rw [ltAt_of HXV.out, HO.out, decide_eq_false hlo]; simp))
                clear hlo
                go_wp2
                rw [← HW3.out]
                refine wp_region_after (by kernel_rfl) (by kernel_rfl) ?_
                repeat (go_big_quiet_step ((first | (go_at_call 50; exact after_call (HG.out _)) | (go_at_call 51; exact after_call (HC.out _)))))
                refine wpQuiet_nil ?_
                rintro _ ⟨xa, rfl⟩
                go_wp2
                go_ret
                exact ⟨ret_bool HE.out.symm, fstep HW3F.out xa.h⟩
        · have hkn : k = l.length := by omega
          have hltz : ¬ (k : Int) < (l.length : Int) := by omega
          have HE := Lib.hid (planB_end (P := ⟨N, L⟩) HNET.out (by show L.length ≤ 12; rw [HLEN.out]; exact h12) (by show ∀ k, k < L.length → ltAt N L k = true; rw [HLEN.out, ← hkn]; exact HA.out))
          clear hf
          go_wp2
          go_ret
          exact ⟨ret_bool HE.out.symm, HW.out⟩
    · have hd : decide (12 < (l.length : Int)) = true := decide_eq_true (by omega)
      have HE := Lib.hid (planB_long (P := ⟨N, L⟩) (by show ¬ L.length ≤ 12; rw [HLEN.out]; exact h12))
      go_wp2
      go_ret
      exact ⟨ret_bool HE.out.symm, HF.out⟩

end Go.Proofs.YtjhaoonacjebpaaGreatDoor

/- Plans, lights, routes that came in, as one value. -/
namespace Go.Proofs.YtjhaoonacjebpaaGreatDoor
open Go.RowKit Go.ChangeShapes Go.WideShapes Go.ChangeAt Go.Joins

instance : Inhabited LL := ⟨⟨0, default, 0, 0⟩⟩
theorem cells_bk : Tryz.prog.cellsOf 81 = 2 := by kernel_rfl
theorem cells_lt : Tryz.prog.cellsOf 83 = 5 := by kernel_rfl
theorem cells_ls : Tryz.prog.cellsOf 26 = 1 := by kernel_rfl
theorem cells_pl : Tryz.prog.cellsOf 28 = 3 := by kernel_rfl
section
variable {H : Type} {enc : TypeId × Value → H}
set_option maxRecDepth 100000 in
theorem block_of_cells {W : World} {fuel : Nat} {cs : List Value} {x : DataW H × List MemPlace} (h : DataW.trod enc Tryz.prog W 0 (fun _ => true) true fuel 81 cs = some x) : ∃ f c : Int, cs = [iv f, iv c] := by
  obtain ⟨y0, y1, k, _, hlen, h0, h1⟩ := trod_struct2 Tryz.underlying81 h
  rw [cells_bk] at hlen
  match cs, hlen with
  | [u0, u1], _ =>
    have h0' : DataW.trod enc Tryz.prog W 0 (fun _ => true) true k 3 [u0] = some y0 := by
      have := h0; simp only at this; rw [cells_i] at this; exact this
    have h1' : DataW.trod enc Tryz.prog W 0 (fun _ => true) true k 3 [u1] = some y1 := by
      have := h1; simp only at this; rw [cells_i] at this; exact this
    obtain ⟨f, e0, _, _⟩ := DataW.trod_int Tryz.underlying3 h0'
    obtain ⟨c, e1, _, _⟩ := DataW.trod_int Tryz.underlying3 h1'
    cases e0; cases e1
    exact ⟨f, c, rfl⟩
set_option maxRecDepth 100000 in
theorem light_of_cells {W : World} {fuel : Nat} {cs : List Value} {x : DataW H × List MemPlace} (h : DataW.trod enc Tryz.prog W 0 (fun _ => true) true fuel 83 cs = some x) :
    ∃ a : LL, cs = llC a ∧ (Ints W a.r.q a.r.fibs ∧ a.r.fibs.length ≤ 9223372036854775807) := by
  obtain ⟨y0, y1, y2, k, _, hlen, h0, h1, h2⟩ := Go.Deep.trod_struct3 Tryz.underlying83 h
  rw [cells_lt] at hlen
  match cs, hlen with
  | [u0, u1, u2, u3, u4], _ =>
    have h0' : DataW.trod enc Tryz.prog W 0 (fun _ => true) true k 3 [u0] = some y0 := by
      have := h0; simp only at this; rw [cells_i] at this; exact this
    have h1' : DataW.trod enc Tryz.prog W 0 (fun _ => true) true k 80 [u1, u2] = some y1 := by
      have := h1; simp only at this; rw [cells_rt] at this; exact this
    have h2' : DataW.trod enc Tryz.prog W 0 (fun _ => true) true k 81 [u3, u4] = some y2 := by
      have := h2; simp only at this; rw [cells_bk] at this; exact this
    obtain ⟨id, e0, _, _⟩ := DataW.trod_int Tryz.underlying3 h0'
    obtain ⟨⟨s, q, cap, l⟩, e1, hI, hn⟩ := route_of_cells h1'
    obtain ⟨f, c, e2⟩ := block_of_cells h2'
    cases e0; cases e1; cases e2
    exact ⟨⟨id, ⟨s, q, cap, l⟩, f, c⟩, rfl, hI, hn⟩
set_option maxRecDepth 100000 in
theorem pl_of_cells {W : World} {fuel : Nat} {cs : List Value} {x : DataW H × List MemPlace} (h : DataW.trod enc Tryz.prog W 0 (fun _ => true) true fuel 28 cs = some x) : ∃ P, PlRaw W (.agg cs.toArray) P := by
  obtain ⟨y0, y1, k, _, hlen, h0, h1⟩ := trod_struct2 Tryz.underlying28 h
  rw [cells_pl] at hlen
  match cs, hlen with
  | [u0, u1, u2], _ =>
    have h0' : DataW.trod enc Tryz.prog W 0 (fun _ => true) true k 25 [u0, u1] = some y0 := by
      have := h0; simp only at this; rw [cells_net] at this; exact this
    have h1' : DataW.trod enc Tryz.prog W 0 (fun _ => true) true k 26 [u2] = some y1 := by
      have := h1; simp only at this; rw [cells_ls] at this; exact this
    obtain ⟨n, hn⟩ := net_of_cells h0'
    obtain ⟨r, e, l, e1, g2, g3, g4, g5⟩ := slice_of_cells llC (fun a => Ints W a.r.q a.r.fibs ∧ a.r.fibs.length ≤ 9223372036854775807) Tryz.underlying26 cells_lt (by omega) (fun _ => rfl) (fun _ _ _ hx => light_of_cells hx) h1'
    obtain ⟨q, m, c, p, k, d, hs⟩ := hn.shape
    simp at hs
    obtain ⟨rfl, rfl⟩ := hs
    cases e1
    exact ⟨⟨n, l.map LL.val⟩, q, m, c, p, k, d, r, e, l, rfl, hn, ⟨g2, fun x hx => (g5 x hx).1⟩, by omega, fun x hx => (g5 x hx).2, rfl, g3, g4⟩
set_option maxRecDepth 100000 in
theorem pl_of_trod {W : World} {r : Reach} {b : Nat} {v : Value} {d : DataW H} {p : List MemPlace} (hok : Value.okWide Tryz.prog W r b 28 v)
    (h : DataW.Trod enc Tryz.prog W 0 (fun _ => true) true 28 v d p) : ∃ P, PlRaw W v P := by
  obtain ⟨cs, rfl, _⟩ := okWide_struct Tryz.underlying28 hok
  obtain ⟨fuel, hfu⟩ := h
  have := pl_of_cells hfu
  simpa [Value.cells] using this
set_option maxRecDepth 100000 in
theorem rt_of_trod {W : World} {r : Reach} {b : Nat} {v : Value} {d : DataW H} {p : List MemPlace} (hok : Value.okWide Tryz.prog W r b 80 v)
    (h : DataW.Trod enc Tryz.prog W 0 (fun _ => true) true 80 v d p) : ∃ R, RtRaw W v R := by
  obtain ⟨cs, rfl, _⟩ := okWide_struct Tryz.underlying80 hok
  obtain ⟨fuel, hfu⟩ := h
  obtain ⟨⟨s, q, cap, l⟩, e, hI, hn⟩ := route_of_cells (x := (d, p)) (by simpa [Value.cells] using hfu)
  refine ⟨_, s, q, cap, l, ?_, hI, hn, rfl⟩
  rw [← Array.toArray_toList (xs := cs), e]
end
end Go.Proofs.YtjhaoonacjebpaaGreatDoor

/- Slices of structs of two ints: what they read as, appending one; lists of blocks copied and compared, as one value. -/
namespace Go.Proofs.YtjhaoonacjebpaaGreatDoor
open Go.RowKit

/-- The two cells of a pair. -/
def pc (b : Int × Int) : List Value := [iv b.1, iv b.2]
def pcs (l : List (Int × Int)) : List Value := l.flatMap pc
theorem pcs_nil : pcs [] = [] := rfl
theorem pcs_app (l r : List (Int × Int)) : pcs (l ++ r) = pcs l ++ pcs r := by simp [pcs]
theorem pcs_cons (b : Int × Int) (l : List (Int × Int)) : pcs (b :: l) = iv b.1 :: iv b.2 :: pcs l := rfl
theorem pcs_len (l : List (Int × Int)) : (pcs l).length = l.length * 2 := by
  induction l with
  | nil => rfl
  | cons b l ih => rw [pcs_cons, List.length_cons, List.length_cons, ih, List.length_cons]; omega
theorem pcs_get {l : List (Int × Int)} {k : Nat} {b : Int × Int} (h : l[k]? = some b) : (pcs l)[k * 2]? = some (iv b.1) ∧ (pcs l)[k * 2 + 1]? = some (iv b.2) := by
  induction l generalizing k with
  | nil => simp at h
  | cons c l ih =>
    rw [pcs_cons]
    cases k with
    | zero => simp at h; subst h; exact ⟨rfl, rfl⟩
    | succ k =>
      have h' : l[k]? = some b := by simpa using h
      have e : (k + 1) * 2 = k * 2 + 1 + 1 := by omega
      obtain ⟨i1, i2⟩ := ih h'
      rw [e]
      exact ⟨by rw [List.getElem?_cons_succ, List.getElem?_cons_succ]; exact i1, by rw [List.getElem?_cons_succ, List.getElem?_cons_succ]; exact i2⟩
/-- A slice of pairs. -/
def Prs (w : World) (p : Option Addr) (l : List (Int × Int)) : Prop := Cells w p (pcs l)
theorem Prs.keep {w w' : World} {p : Option Addr} {l : List (Int × Int)} (h : Prs w p l) (hb : Fresh w w') : Prs w' p l := Cells.keep h hb
theorem Prs.at {w : World} {p : Option Addr} {l : List (Int × Int)} (h : Prs w p l) {k : Nat} (hk : k < l.length) :
    ∃ b off x y, p = some ⟨b, off, none⟩ ∧ l[k]? = some (x, y) ∧ w.cell? ⟨b, off + k * 2, none⟩ = some (.int .i64 x) ∧ w.cell? ⟨b, off + k * 2 + 1, none⟩ = some (.int .i64 y) := by
  obtain ⟨b, off, rfl, hc⟩ := Cells.at h (k := 0) (by rw [pcs_len]; omega)
  have hx : l[k]? = some (l[k].1, l[k].2) := by simp [hk]
  obtain ⟨h1, h2⟩ := pcs_get hx
  exact ⟨b, off, l[k].1, l[k].2, rfl, hx, hc _ _ h1, by rw [Nat.add_assoc]; exact hc _ _ h2⟩
theorem Own.prs {w : World} {base : Nat} {t : TypeId} {p : Option Addr} {l : List (Int × Int)} (h : Own w base t p (pcs l)) : Prs w p l := h.cells

/-- One pair appended to a row of the call's own. -/
theorem wpList_app_prs {T E : TypeId} (hu : Tryz.prog.underlying T = some (.slice E)) (hinfo : (Tryz.prog.info? E).map (fun i => (i.zero, i.size, i.bytes)) = some (some (.agg #[.int .i64 0, .int .i64 0]), 2, 16))
    {ops : Array Oper} {rest : List Oper} {o : Oper} {a : Act} {Q : Exit → Act → World → Prop} (w0 w1 : World) (v : Value) (l : List (Int × Int)) (x y : Int) (hgd : o.guard = none) (s t : Operand)
    (ho : o.op = .call { callee := .builtin .append, args := #[s, t], argTypes := #[T, T] }) (hs : a.eval s = v) (hown : w1.ownsRow w0.heap.size E 2 v l.length (pcs l))
    (hx : a.eval t = .slice (some ⟨w1.heap.size, 0, none⟩) 1 1) (hn : l.length ≤ 1099511627776) (hf : Fresh w0 w1)
    (h : ∀ v' w', w'.ownsRow w0.heap.size E 2 v' (l ++ [(x, y)]).length (pcs (l ++ [(x, y)])) → Fresh w0 w' → wpList Tryz.prog ops Q rest (a.put o.dst v') w') :
    wpList Tryz.prog ops Q (o :: rest) a (w1.alloc (.cells #[.int .i64 x, .int .i64 y] E)) := by
  obtain ⟨i0, hi, hz0, hz1, hz2⟩ := info_parts hinfo
  refine wpList_append_own _ hgd s t T ho w0.heap.size E i0 (.agg #[.int .i64 0, .int .i64 0]) 2 16 hu hi hz0 hz1 hz2 rfl (by decide) v l.length (pcs l) hs (hown.alloc _) ⟨w1.heap.size, 0, none⟩ 1 1 [iv x, iv y] hx rfl (cell_two_new _ _ _ _)
    (by intro u hu; simp at hu; rcases hu with rfl | rfl <;> rfl) (by unfold maxLen; omega) (by omega) (Nat.le_trans hf.size (by simp)) ?_
  intro v' w' hown' hgrow _
  refine h v' w' ?_ (fgrown (fnew hf _) hgrow (own_block hown))
  rw [pcs_app, List.length_append]
  exact hown'

theorem infoBlk : (Tryz.prog.info? 56).map (fun i => (i.zero, i.size, i.bytes)) = some (some (.agg #[.int .i64 0, .int .i64 0]), 2, 16) := by kernel_rfl
theorem madeCells_two (n : Nat) : madeCells #[iv 0, iv 0] n = (List.replicate n (iv 0)).toArray := by
  apply Array.ext
  · simp [madeCells]
  · intro i h1 h2
    have h : i % 2 = 0 ∨ i % 2 = 1 := by omega
    rcases h with h | h <;> simp [madeCells, h]
theorem mkPrs {T E : TypeId} (hu : Tryz.prog.underlying T = some (.slice E)) (hinfo : (Tryz.prog.info? E).map (fun i => (i.zero, i.size, i.bytes)) = some (some (.agg #[.int .i64 0, .int .i64 0]), 2, 16)) (n : Nat) (hn : n * 16 ≤ 281474976710656) (u : World) :
    (Instr.makeSlice T (.int .i64 (n : Int)) (.int .i64 (n : Int))).run Tryz.prog u = .ok (.slice (some ⟨u.heap.size, 0, none⟩) n n) (u.alloc (.cells ((List.replicate (n * 2) (iv 0)).toArray) E)) := by
  obtain ⟨i0, hi, hz0, hz1, hz2⟩ := info_parts hinfo
  have h := run_make (P := Tryz.prog) u T E i0 _ hu hi hz0 .i64 .i64 n n (by omega) (Int.le_refl _) (by rw [hz2]; omega) (by omega)
  rw [Int.toNat_natCast, hz1] at h
  rw [← madeCells_two]
  simpa [Value.cells] using h
theorem set_prs (l : List (Int × Int)) (k : Nat) (x y : Int) (hx : l[k]? = some (x, y)) :
    (((pcs (l.take k) ++ List.replicate ((l.length - k) * 2) (iv 0)).set (k * 2) (iv x)).set (k * 2 + 1) (iv y)) = pcs (l.take (k + 1)) ++ List.replicate ((l.length - (k + 1)) * 2) (iv 0) := by
  have hk : k < l.length := by
    rcases Nat.lt_or_ge k l.length with h | h
    · exact h
    · rw [List.getElem?_eq_none h] at hx; cases hx
  have hl : (pcs (l.take k)).length = k * 2 := by rw [pcs_len, List.length_take]; omega
  have e : (l.length - k) * 2 = (l.length - (k + 1)) * 2 + 1 + 1 := by omega
  have e2 : k * 2 + 1 - k * 2 = 0 + 1 := by omega
  rw [e, List.replicate_succ, List.replicate_succ, List.set_append, if_neg (by omega), hl, Nat.sub_self, List.set_cons_zero, List.set_append, if_neg (by omega), hl, e2, List.set_cons_succ, List.set_cons_zero,
    List.take_add_one, hx, pcs_app]
  simp [pcs, pc]
theorem get_prs0 (l : List (Int × Int)) (k : Nat) (hk : k < l.length) :
    (pcs (l.take k) ++ List.replicate ((l.length - k) * 2) (iv 0))[k * 2]? = some (iv 0) ∧ (pcs (l.take k) ++ List.replicate ((l.length - k) * 2) (iv 0))[k * 2 + 1]? = some (iv 0) := by
  have hl : (pcs (l.take k)).length = k * 2 := by rw [pcs_len, List.length_take]; omega
  have e : (l.length - k) * 2 = (l.length - (k + 1)) * 2 + 1 + 1 := by omega
  have e2 : k * 2 + 1 - k * 2 = 0 + 1 := by omega
  rw [e, List.replicate_succ, List.replicate_succ, List.getElem?_append_right (by omega), List.getElem?_append_right (by omega), hl, Nat.sub_self, e2]
  exact ⟨rfl, rfl⟩
theorem prs_end (l : List (Int × Int)) (k : Nat) (hk : l.length ≤ k) : pcs (l.take k) ++ List.replicate ((l.length - k) * 2) (iv 0) = pcs l := by
  rw [List.take_of_length_le hk, Nat.sub_eq_zero_of_le hk, Nat.zero_mul, List.replicate_zero, List.append_nil]

def BkRaw (w : World) (v : Value) (L : List (Int × Int)) : Prop := ∃ p cap, v = .slice p L.length cap ∧ Prs w p L ∧ L.length ≤ 9223372036854775807
def BkSmall (L : List (Int × Int)) : Prop := L.length ≤ 1048576
def BkIn (w : World) (v : Value) (L : List (Int × Int)) : Prop := ∃ p cap, v = .slice p L.length cap ∧ Prs w p L ∧ L.length ≤ 1048576
theorem BkRaw.keep {w w' : World} {v : Value} {L : List (Int × Int)} (h : BkRaw w v L) (hb : Fresh w w') : BkRaw w' v L := by
  obtain ⟨p, cap, h1, h2, r⟩ := h
  exact ⟨p, cap, h1, h2.keep hb, r⟩
theorem BkIn.keep {w w' : World} {v : Value} {L : List (Int × Int)} (h : BkIn w v L) (hb : Fresh w w') : BkIn w' v L := by
  obtain ⟨p, cap, h1, h2, r⟩ := h
  exact ⟨p, cap, h1, h2.keep hb, r⟩
theorem BkRaw.small {w : World} {v : Value} {L : List (Int × Int)} (h : BkRaw w v L) (hs : BkSmall L) : BkIn w v L := by
  obtain ⟨p, cap, h1, h2, _⟩ := h
  exact ⟨p, cap, h1, h2, hs⟩
end Go.Proofs.YtjhaoonacjebpaaGreatDoor

/- Blocks that came in, as one value. -/
namespace Go.Proofs.YtjhaoonacjebpaaGreatDoor
open Go.RowKit Go.ChangeShapes Go.WideShapes Go.ChangeAt Go.Joins
theorem cellsB : Tryz.prog.cellsOf 81 = 2 := by kernel_rfl
end Go.Proofs.YtjhaoonacjebpaaGreatDoor

