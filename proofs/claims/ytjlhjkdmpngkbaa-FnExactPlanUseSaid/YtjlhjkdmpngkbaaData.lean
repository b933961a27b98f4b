/- Contracts: strings, lists of four ints, networks: sizes, copies, comparisons. -/
import Derived.Test.YtjlhjkdmpngkbaaNet
import Derived.Test.YtjlhjkdmpngkbaaFill
namespace Go.Proofs.Ytjlhjkdmpngkbaa
open Go.RowKit Go.PlainAid

abbrev strC (s : ByteArray) : List Value := [.string s]
theorem strs_flat (l : List ByteArray) : l.map Value.string = l.flatMap strC := flat_one _ _
abbrev zStr : List Value := [.string ByteArray.empty]
abbrev zFib : List Value := [iv 0, iv 0, iv 0, iv 0]
theorem infoStr : (Try.prog.info? 9).map (fun i => (i.zero, i.size, i.bytes)) = some (some (.string ByteArray.empty), zStr.length, 16) := by kernel_rfl
theorem infoFib : (Try.prog.info? 170).map (fun i => (i.zero, i.size, i.bytes)) = some (some (.agg #[iv 0, iv 0, iv 0, iv 0]), zFib.length, 32) := by kernel_rfl
theorem infoDem : (Try.prog.info? 114).map (fun i => (i.zero, i.size, i.bytes)) = some (some (.agg #[iv 0, iv 0, iv 0, iv 0]), zFib.length, 32) := by kernel_rfl

/-- What is left of the bulk, and what that tells. -/
def SzOut (w : World) (left : Int) (P : Prop) (e : Ending) (w' : World) : Prop := ∃ r, e = .returned (.int .i64 r) ∧ -1 ≤ r ∧ r ≤ left ∧ (0 ≤ r → P) ∧ Fresh w w'

set_option maxHeartbeats 1000000 in
theorem szStringS_any (p : Option Addr) (cap : Nat) (l : List ByteArray) (left : Int) (w : World) (hI : Strs w p l) (hn : l.length ≤ 9223372036854775807) (hs : ∀ s ∈ l, s.size ≤ 9223372036854775807) (h0 : 0 ≤ left) (h1 : left ≤ 1048576) :
    Calls Try.prog 72 #[.slice p l.length cap, .int .i64 left] w (SzOut w left (l.length ≤ 1048576 ∧ ∀ s ∈ l, s.size ≤ 1048576)) := by
  have HS := Lib.hid hs
  clear hs
  by_cases hb : left - (l.length : Int) < 0
  · go_enter Try.func72, Try.ntmps72
    go_wp2
    go_ret
    exact ⟨_, rfl, by omega, by omega, fun h => by omega, frefl _⟩
  · go_enter Try.func72, Try.ntmps72
    go_wp2
    go_loop [1, 5] (fun v i => ∃ (k : Nat) (r : Int), k ≤ l.length ∧ i = .int .i64 k ∧ v = .int .i64 r ∧ 0 ≤ r ∧ r ≤ left - l.length ∧ ∀ j s, j < k → l[j]? = some s → s.size ≤ 1048576) (fun _ i => l.length - (intOf i).toNat)
    case atStart => exact ⟨0, _, Nat.zero_le _, rfl, rfl, by omega, by omega, fun j s hj => by omega⟩
    case round =>
      obtain ⟨k, r, hk, rfl, rfl, hr0, hr1, hall⟩ := hrel
      have HA := Lib.hid hall
      clear hall
      by_cases hlt : k < l.length
      · obtain ⟨b, off, s, rfl, hx, hc⟩ := hI.at hlt
        have hltz : (k : Int) < (l.length : Int) := by omega
        have hsz := HS.out s (List.mem_of_getElem? hx)
        have HX := Lib.hid hx
        clear hx
        by_cases hneg : r - (s.size : Int) < 0
        · go_wp2
          go_ret
          exact ⟨_, rfl, by omega, by omega, fun h => by omega, frefl _⟩
        · go_wp2
          go_round
          case rel =>
            refine ⟨k + 1, r - s.size, by omega, by go_num, rfl, by omega, by omega, ?_⟩
            intro j t hj ht
            rcases Nat.lt_or_ge j k with h' | h'
            · exact HA.out j t h' ht
            · have : j = k := by omega
              subst this; rw [HX.out] at ht; cases ht; omega
          case measure => simp [intOf]; omega
      · have hltz : ¬ (k : Int) < (l.length : Int) := by omega
        have hkn : k = l.length := by omega
        go_wp2
        go_ret
        refine ⟨_, rfl, by omega, by omega, fun _ => ⟨by omega, fun s hs => ?_⟩, frefl _⟩
        obtain ⟨j, hj, rfl⟩ := List.getElem_of_mem hs
        exact HA.out j _ (by omega) (List.getElem?_eq_getElem hj)

set_option maxHeartbeats 400000 in
theorem szFiberS_any (p : Option Addr) (n cap : Nat) (left : Int) (w : World) (hn : n ≤ 9223372036854775807) (h0 : 0 ≤ left) (h1 : left ≤ 1048576) :
    Calls Try.prog 73 #[.slice p n cap, .int .i64 left] w (SzOut w left (n ≤ 1048576)) := by
  by_cases hb : left - (n : Int) < 0
  · go_enter Try.func73, Try.ntmps73
    go_wp2
    go_ret
    exact ⟨_, rfl, by omega, by omega, fun h => by omega, frefl _⟩
  · go_enter Try.func73, Try.ntmps73
    go_wp2
    go_ret
    exact ⟨_, rfl, by omega, by omega, fun h => by omega, frefl _⟩

set_option maxHeartbeats 400000 in
theorem szDemandS_any (p : Option Addr) (n cap : Nat) (left : Int) (w : World) (hn : n ≤ 9223372036854775807) (h0 : 0 ≤ left) (h1 : left ≤ 1048576) :
    Calls Try.prog 16 #[.slice p n cap, .int .i64 left] w (SzOut w left (n ≤ 1048576)) := by
  by_cases hb : left - (n : Int) < 0
  · go_enter Try.func16, Try.ntmps16
    go_wp2
    go_ret
    exact ⟨_, rfl, by omega, by omega, fun h => by omega, frefl _⟩
  · go_enter Try.func16, Try.ntmps16
    go_wp2
    go_ret
    exact ⟨_, rfl, by omega, by omega, fun h => by omega, frefl _⟩

set_option maxHeartbeats 1000000 in
theorem toFiber_any (x y z u : Int) (w : World) :
    Calls Try.prog 137 #[.agg #[.int .i64 x, .int .i64 y, .int .i64 z, .int .i64 u]] w fun e w' => e = .returned (.agg #[.int .i64 x, .int .i64 y, .int .i64 z, .int .i64 u]) ∧ Fresh w w' := by
  go_enter Try.func137, Try.ntmps137
  go_wp2
  refine bodyPost_ret (v := .agg #[.int .i64 x, .int .i64 y, .int .i64 z, .int .i64 u]) (by simp [results, Try.results137, go_sem]) rfl ⟨rfl, ?_⟩
  repeat (first | exact frefl _ | apply fnew | (refine fset ?_ (by simp) _))

set_option maxHeartbeats 2000000 in
theorem toFiberS_any (p : Option Addr) (cap : Nat) (l : List Fib) (w : World) (hI : Fibs w p l) (hn : l.length ≤ 1048576) :
    Calls Try.prog 76 #[.slice p l.length cap] w fun e w' =>
      e = .returned (.slice (some ⟨w.heap.size, 0, none⟩) l.length l.length) ∧ RowAt w' w.heap.size 170 (l.flatMap fibC) ∧ Fresh w w' := by
  have hmk := mkRow (z := zFib) Try.underlying30 infoFib rfl (by decide) l.length (by omega) (by omega)
  go_enter Try.func76, Try.ntmps76
  go_wp2
  go_loopw [4] (fun i wr => ∃ k : Nat, k ≤ l.length ∧ i = .int .i64 k ∧ RowAt wr w.heap.size 170 (fillR fibC zFib l k) ∧ Fresh w wr)
    (fun i _ => l.length - (intOf i).toNat)
  case atStart => exact ⟨0, Nat.zero_le _, rfl, by rw [fillR_zero]; exact RowAt.new w _ _, fnew (frefl _) _⟩
  case round =>
    obtain ⟨k, hk, rfl, hrow, hf⟩ := hrel
    by_cases hlt : k < l.length
    · obtain ⟨b, off, x, y, z, u, rfl, hx, hc0, hc1, hc2, hc3⟩ := hI.at hlt
      have hltz : (k : Int) < (l.length : Int) := by omega
      have hd0 := fkeep hf hc0
      have hd1 := fkeep hf hc1
      have hd2 := fkeep hf hc2
      have hd3 := fkeep hf hc3
      have HX := Lib.hid hx
      have HR := Lib.hid hrow
      have HF := Lib.hid hf
      clear hx hc0 hc1 hc2 hc3 hI hrow hf
      go_wp2_with fail
      refine (toFiber_any _ _ _ _ _).mono ?_; rintro e w1 ⟨rfl, hb1⟩
      have hr1 := HR.out.keep hb1
      have hcell0 : w1.cell? ⟨w.heap.size, k * 4, none⟩ = some (.int .i64 0) := hr1.cell (fillR_get fibC zFib l k 0 (fun _ => rfl) hlt (by decide))
      have hcell1 : w1.cell? ⟨w.heap.size, k * 4 + 1, none⟩ = some (.int .i64 0) := hr1.cell (fillR_get fibC zFib l k 1 (fun _ => rfl) hlt (by decide))
      have hcell2 : w1.cell? ⟨w.heap.size, k * 4 + 2, none⟩ = some (.int .i64 0) := hr1.cell (fillR_get fibC zFib l k 2 (fun _ => rfl) hlt (by decide))
      have hcell3 : w1.cell? ⟨w.heap.size, k * 4 + 3, none⟩ = some (.int .i64 0) := hr1.cell (fillR_get fibC zFib l k 3 (fun _ => rfl) hlt (by decide))
      have hfr0 := hr1.frozen (k * 4)
      have hfr1 := hr1.frozen (k * 4 + 1)
      have hfr2 := hr1.frozen (k * 4 + 2)
      have hfr3 := hr1.frozen (k * 4 + 3)
      have HR1 := Lib.hid hr1
      clear hr1
      go_wp2
      go_roundw
      case rel =>
        refine ⟨k + 1, by omega, by go_num, ?_, fset (fset (fset (fset (fstep HF.out hb1) (Nat.le_refl _) _) (Nat.le_refl _) _) (Nat.le_refl _) _) (Nat.le_refl _) _⟩
        have := (((HR1.out.set (k * 4) (iv x)).set (k * 4 + 1) (iv y)).set (k * 4 + 2) (iv z)).set (k * 4 + 3) (iv u)
        have e : ((((fillR fibC zFib l k).set (k * 4) (iv x)).set (k * 4 + 1) (iv y)).set (k * 4 + 2) (iv z)).set (k * 4 + 3) (iv u) = fillR fibC zFib l (k + 1) := fillR_set fibC zFib l k ⟨x, y, z, u⟩ (fun _ => rfl) HX.out
        rw [e] at this
        exact this
      case measure => simp [intOf]; omega
    · have hkn : k = l.length := by omega
      have hltz : ¬ (k : Int) < (l.length : Int) := by omega
      have HR := Lib.hid hrow
      have HF := Lib.hid hf
      clear hrow hf
      go_wp2
      go_ret
      refine ⟨rfl, ?_, HF.out⟩
      have := HR.out
      rw [fillR_end _ _ _ _ (by omega)] at this
      exact this

set_option maxHeartbeats 1000000 in
theorem toDemand_any (x y z u : Int) (w : World) :
    Calls Try.prog 77 #[.agg #[.int .i64 x, .int .i64 y, .int .i64 z, .int .i64 u]] w fun e w' => e = .returned (.agg #[.int .i64 x, .int .i64 y, .int .i64 z, .int .i64 u]) ∧ Fresh w w' := by
  go_enter Try.func77, Try.ntmps77
  go_wp2
  refine bodyPost_ret (v := .agg #[.int .i64 x, .int .i64 y, .int .i64 z, .int .i64 u]) (by simp [results, Try.results77, go_sem]) rfl ⟨rfl, ?_⟩
  repeat (first | exact frefl _ | apply fnew | (refine fset ?_ (by simp) _))

set_option maxHeartbeats 2000000 in
theorem toDemandS_any (p : Option Addr) (cap : Nat) (l : List Fib) (w : World) (hI : Fibs w p l) (hn : l.length ≤ 1048576) :
    Calls Try.prog 19 #[.slice p l.length cap] w fun e w' =>
      e = .returned (.slice (some ⟨w.heap.size, 0, none⟩) l.length l.length) ∧ RowAt w' w.heap.size 114 (l.flatMap fibC) ∧ Fresh w w' := by
  have hmk := mkRow (z := zFib) Try.underlying34 infoDem rfl (by decide) l.length (by omega) (by omega)
  go_enter Try.func19, Try.ntmps19
  go_wp2
  go_loopw [4] (fun i wr => ∃ k : Nat, k ≤ l.length ∧ i = .int .i64 k ∧ RowAt wr w.heap.size 114 (fillR fibC zFib l k) ∧ Fresh w wr)
    (fun i _ => l.length - (intOf i).toNat)
  case atStart => exact ⟨0, Nat.zero_le _, rfl, by rw [fillR_zero]; exact RowAt.new w _ _, fnew (frefl _) _⟩
  case round =>
    obtain ⟨k, hk, rfl, hrow, hf⟩ := hrel
    by_cases hlt : k < l.length
    · obtain ⟨b, off, x, y, z, u, rfl, hx, hc0, hc1, hc2, hc3⟩ := hI.at hlt
      have hltz : (k : Int) < (l.length : Int) := by omega
      have hd0 := fkeep hf hc0
      have hd1 := fkeep hf hc1
      have hd2 := fkeep hf hc2
      have hd3 := fkeep hf hc3
      have HX := Lib.hid hx
      have HR := Lib.hid hrow
      have HF := Lib.hid hf
      clear hx hc0 hc1 hc2 hc3 hI hrow hf
      go_wp2_with fail
      refine (toDemand_any _ _ _ _ _).mono ?_; rintro e w1 ⟨rfl, hb1⟩
      have hr1 := HR.out.keep hb1
      have hcell0 : w1.cell? ⟨w.heap.size, k * 4, none⟩ = some (.int .i64 0) := hr1.cell (fillR_get fibC zFib l k 0 (fun _ => rfl) hlt (by decide))
      have hcell1 : w1.cell? ⟨w.heap.size, k * 4 + 1, none⟩ = some (.int .i64 0) := hr1.cell (fillR_get fibC zFib l k 1 (fun _ => rfl) hlt (by decide))
      have hcell2 : w1.cell? ⟨w.heap.size, k * 4 + 2, none⟩ = some (.int .i64 0) := hr1.cell (fillR_get fibC zFib l k 2 (fun _ => rfl) hlt (by decide))
      have hcell3 : w1.cell? ⟨w.heap.size, k * 4 + 3, none⟩ = some (.int .i64 0) := hr1.cell (fillR_get fibC zFib l k 3 (fun _ => rfl) hlt (by decide))
      have hfr0 := hr1.frozen (k * 4)
      have hfr1 := hr1.frozen (k * 4 + 1)
      have hfr2 := hr1.frozen (k * 4 + 2)
      have hfr3 := hr1.frozen (k * 4 + 3)
      have HR1 := Lib.hid hr1
      clear hr1
      go_wp2
      go_roundw
      case rel =>
        refine ⟨k + 1, by omega, by go_num, ?_, fset (fset (fset (fset (fstep HF.out hb1) (Nat.le_refl _) _) (Nat.le_refl _) _) (Nat.le_refl _) _) (Nat.le_refl _) _⟩
        have := (((HR1.out.set (k * 4) (iv x)).set (k * 4 + 1) (iv y)).set (k * 4 + 2) (iv z)).set (k * 4 + 3) (iv u)
        have e : ((((fillR fibC zFib l k).set (k * 4) (iv x)).set (k * 4 + 1) (iv y)).set (k * 4 + 2) (iv z)).set (k * 4 + 3) (iv u) = fillR fibC zFib l (k + 1) := fillR_set fibC zFib l k ⟨x, y, z, u⟩ (fun _ => rfl) HX.out
        rw [e] at this
        exact this
      case measure => simp [intOf]; omega
    · have hkn : k = l.length := by omega
      have hltz : ¬ (k : Int) < (l.length : Int) := by omega
      have HR := Lib.hid hrow
      have HF := Lib.hid hf
      clear hrow hf
      go_wp2
      go_ret
      refine ⟨rfl, ?_, HF.out⟩
      have := HR.out
      rw [fillR_end _ _ _ _ (by omega)] at this
      exact this

set_option maxHeartbeats 2000000 in
theorem toStringS_any (p : Option Addr) (cap : Nat) (l : List ByteArray) (w : World) (hI : Strs w p l) (hn : l.length ≤ 1048576) :
    Calls Try.prog 75 #[.slice p l.length cap] w fun e w' =>
      e = .returned (.slice (some ⟨w.heap.size, 0, none⟩) l.length l.length) ∧ RowAt w' w.heap.size 9 (l.flatMap strC) ∧ Fresh w w' := by
  have hmk := mkRow (z := zStr) Try.underlying22 infoStr rfl (by decide) l.length (by omega) (by omega)
  go_enter Try.func75, Try.ntmps75
  go_wp2
  go_loopw [4] (fun i wr => ∃ k : Nat, k ≤ l.length ∧ i = .int .i64 k ∧ RowAt wr w.heap.size 9 (fillR strC zStr l k) ∧ Fresh w wr)
    (fun i _ => l.length - (intOf i).toNat)
  case atStart => exact ⟨0, Nat.zero_le _, rfl, by rw [fillR_zero]; exact RowAt.new w _ _, fnew (frefl _) _⟩
  case round =>
    obtain ⟨k, hk, rfl, hrow, hf⟩ := hrel
    by_cases hlt : k < l.length
    · obtain ⟨b, off, s, rfl, hx, hc0⟩ := hI.at hlt
      have hltz : (k : Int) < (l.length : Int) := by omega
      have hd0 := fkeep hf hc0
      have hcell0 : wr.cell? ⟨w.heap.size, k, none⟩ = some (.string ByteArray.empty) := by
        have h := fillR_get strC zStr l k 0 (fun _ => rfl) hlt (by decide)
        have e : k * zStr.length + 0 = k := by simp
        rw [e] at h
        exact hrow.cell h
      have hfr0 := hrow.frozen k
      have HX := Lib.hid hx
      have HR := Lib.hid hrow
      have HF := Lib.hid hf
      clear hx hc0 hI hrow hf
      go_wp2
      go_roundw
      case rel =>
        refine ⟨k + 1, by omega, by go_num, ?_, fset HF.out (Nat.le_refl _) _⟩
        have := HR.out.set k (.string s)
        have h := fillR_set strC zStr l k s (fun _ => rfl) HX.out
        have e : k * zStr.length = k := by simp
        rw [e] at h
        have h' : (fillR strC zStr l k).set k (.string s) = fillR strC zStr l (k + 1) := h
        rw [h'] at this
        exact this
      case measure => simp [intOf]; omega
    · have hkn : k = l.length := by omega
      have hltz : ¬ (k : Int) < (l.length : Int) := by omega
      have HR := Lib.hid hrow
      have HF := Lib.hid hf
      clear hrow hf
      go_wp2
      go_ret
      refine ⟨rfl, ?_, HF.out⟩
      have := HR.out
      rw [fillR_end _ _ _ _ (by omega)] at this
      exact this

set_option maxHeartbeats 1000000 in
theorem eqStringS_same (p q : Option Addr) (c d : Nat) (l : List ByteArray) (w : World) (hx : Strs w p l) (hy : Strs w q l) (hn : l.length ≤ 1099511627776) :
    Calls Try.prog 82 #[.slice p l.length c, .slice q l.length d] w fun e w' => e = .returned (.bool true) ∧ Fresh w w' := by
  go_enter Try.func82, Try.ntmps82
  go_wp2
  go_loopw [5] (fun i wr => ∃ k : Nat, k ≤ l.length ∧ i = .int .i64 k ∧ Fresh w wr) (fun i _ => l.length - (intOf i).toNat)
  case atStart => exact ⟨0, Nat.zero_le _, rfl, frefl _⟩
  case round =>
    obtain ⟨k, hk, rfl, hf⟩ := hrel
    by_cases hlt : k < l.length
    · obtain ⟨b, off, s, rfl, hx0, hc0⟩ := hx.at hlt
      obtain ⟨b', off', s', rfl, hy0, hc0'⟩ := hy.at hlt
      rw [hx0] at hy0
      simp only [Option.some.injEq] at hy0
      subst hy0
      have hltz : (k : Int) < (l.length : Int) := by omega
      have hd0 := fkeep hf hc0
      have hd0' := fkeep hf hc0'
      have HF := Lib.hid hf
      clear hx0 hc0 hc0' hx hy hf
      go_wp2
      go_quiet (fail)
      go_wp2
      go_roundw
      case rel => exact ⟨k + 1, by omega, by go_num, fdrewN HF.out _⟩
      case measure => simp [intOf]; omega
    · have hkn : k = l.length := by omega
      have hltz : ¬ (k : Int) < (l.length : Int) := by omega
      have HF := Lib.hid hf
      clear hf
      go_wp2
      go_ret
      exact ⟨rfl, HF.out⟩

set_option maxHeartbeats 1000000 in
theorem eqFiber_same (x y z u : Int) (w : World) :
    Calls Try.prog 142 #[.agg #[.int .i64 x, .int .i64 y, .int .i64 z, .int .i64 u], .agg #[.int .i64 x, .int .i64 y, .int .i64 z, .int .i64 u]] w fun e w' => e = .returned (.bool true) ∧ Fresh w w' := by
  go_enter Try.func142, Try.ntmps142
  go_wp2
  go_ret
  exact ⟨rfl, fnew (fnew (frefl _) _) _⟩

set_option maxHeartbeats 1000000 in
set_option maxRecDepth 100000 in
theorem eqFiberS_same (p q : Option Addr) (c d : Nat) (l : List Fib) (w : World) (hx : Fibs w p l) (hy : Fibs w q l) (hn : l.length ≤ 1099511627776) :
    Calls Try.prog 83 #[.slice p l.length c, .slice q l.length d] w fun e w' => e = .returned (.bool true) ∧ Fresh w w' := by
  go_enter Try.func83, Try.ntmps83
  go_wp2
  go_loopw [5] (fun i wr => ∃ k : Nat, k ≤ l.length ∧ i = .int .i64 k ∧ Fresh w wr) (fun i _ => l.length - (intOf i).toNat)
  case atStart => exact ⟨0, Nat.zero_le _, rfl, frefl _⟩
  case round =>
    obtain ⟨k, hk, rfl, hf⟩ := hrel
    by_cases hlt : k < l.length
    · obtain ⟨b, off, x, y, z, u, rfl, hx0, hc0, hc1, hc2, hc3⟩ := hx.at hlt
      obtain ⟨b', off', x', y', z', u', rfl, hy0, hc0', hc1', hc2', hc3'⟩ := hy.at hlt
      rw [hx0] at hy0
      simp only [Option.some.injEq, Fib.mk.injEq] at hy0
      obtain ⟨rfl, rfl, rfl, rfl⟩ := hy0
      have hltz : (k : Int) < (l.length : Int) := by omega
      have hd0 := fkeep hf hc0
      have hd1 := fkeep hf hc1
      have hd2 := fkeep hf hc2
      have hd3 := fkeep hf hc3
      have hd0' := fkeep hf hc0'
      have hd1' := fkeep hf hc1'
      have hd2' := fkeep hf hc2'
      have hd3' := fkeep hf hc3'
      have HF := Lib.hid hf
      clear hx0 hc0 hc1 hc2 hc3 hc0' hc1' hc2' hc3' hx hy hf
      go_wp2
      go_still_tail 8, (by kernel_rfl)
      change wpList _ _ _ _ _ wr.drew
      have HF2 : Hid (Fresh w wr.drew) := fdrew HF.out
      generalize wr.drew = w2 at HF2
      go_wp2_with (go_at_call 142; refine (eqFiber_same _ _ _ _ _).mono ?_; rintro e w3 ⟨rfl, hb3⟩)
      go_roundw
      case rel => exact ⟨k + 1, by omega, by go_num, fstep HF2.out hb3⟩
      case measure => simp [intOf]; omega
    · have hkn : k = l.length := by omega
      have hltz : ¬ (k : Int) < (l.length : Int) := by omega
      have HF := Lib.hid hf
      clear hf
      go_wp2
      go_ret
      exact ⟨rfl, HF.out⟩

set_option maxHeartbeats 1000000 in
theorem eqDemand_same (x y z u : Int) (w : World) :
    Calls Try.prog 84 #[.agg #[.int .i64 x, .int .i64 y, .int .i64 z, .int .i64 u], .agg #[.int .i64 x, .int .i64 y, .int .i64 z, .int .i64 u]] w fun e w' => e = .returned (.bool true) ∧ Fresh w w' := by
  go_enter Try.func84, Try.ntmps84
  go_wp2
  go_ret
  exact ⟨rfl, fnew (fnew (frefl _) _) _⟩

set_option maxHeartbeats 1000000 in
set_option maxRecDepth 100000 in
theorem eqDemandS_same (p q : Option Addr) (c d : Nat) (l : List Fib) (w : World) (hx : Fibs w p l) (hy : Fibs w q l) (hn : l.length ≤ 1099511627776) :
    Calls Try.prog 22 #[.slice p l.length c, .slice q l.length d] w fun e w' => e = .returned (.bool true) ∧ Fresh w w' := by
  go_enter Try.func22, Try.ntmps22
  go_wp2
  go_loopw [5] (fun i wr => ∃ k : Nat, k ≤ l.length ∧ i = .int .i64 k ∧ Fresh w wr) (fun i _ => l.length - (intOf i).toNat)
  case atStart => exact ⟨0, Nat.zero_le _, rfl, frefl _⟩
  case round =>
    obtain ⟨k, hk, rfl, hf⟩ := hrel
    by_cases hlt : k < l.length
    · obtain ⟨b, off, x, y, z, u, rfl, hx0, hc0, hc1, hc2, hc3⟩ := hx.at hlt
      obtain ⟨b', off', x', y', z', u', rfl, hy0, hc0', hc1', hc2', hc3'⟩ := hy.at hlt
      rw [hx0] at hy0
      simp only [Option.some.injEq, Fib.mk.injEq] at hy0
      obtain ⟨rfl, rfl, rfl, rfl⟩ := hy0
      have hltz : (k : Int) < (l.length : Int) := by omega
      have hd0 := fkeep hf hc0
      have hd1 := fkeep hf hc1
      have hd2 := fkeep hf hc2
      have hd3 := fkeep hf hc3
      have hd0' := fkeep hf hc0'
      have hd1' := fkeep hf hc1'
      have hd2' := fkeep hf hc2'
      have hd3' := fkeep hf hc3'
      have HF := Lib.hid hf
      clear hx0 hc0 hc1 hc2 hc3 hc0' hc1' hc2' hc3' hx hy hf
      go_wp2
      go_still_tail 8, (by kernel_rfl)
      change wpList _ _ _ _ _ wr.drew
      have HF2 : Hid (Fresh w wr.drew) := fdrew HF.out
      generalize wr.drew = w2 at HF2
      go_wp2_with (go_at_call 84; refine (eqDemand_same _ _ _ _ _).mono ?_; rintro e w3 ⟨rfl, hb3⟩)
      go_roundw
      case rel => exact ⟨k + 1, by omega, by go_num, fstep HF2.out hb3⟩
      case measure => simp [intOf]; omega
    · have hkn : k = l.length := by omega
      have hltz : ¬ (k : Int) < (l.length : Int) := by omega
      have HF := Lib.hid hf
      clear hf
      go_wp2
      go_ret
      exact ⟨rfl, HF.out⟩
end Go.Proofs.Ytjlhjkdmpngkbaa
