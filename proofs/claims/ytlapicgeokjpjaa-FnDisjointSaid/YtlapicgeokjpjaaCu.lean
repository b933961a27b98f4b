/- Contracts: the reference's source of drawn numbers: whatever it hands back is in range, and it writes its own variable alone. -/
import Derived.Test.YtlapicgeokjpjaaU4
namespace Go.Proofs.Ytlapicgeokjpjaa
open Go.RowKit

theorem grownTrans {a b c : World} {r : Option Nat} (h : a.grownBy b r) (k : b.grownBy c r) : a.grownBy c r :=
  ⟨k.os.trans h.os, k.tape.trans h.tape, k.output.trans h.output, Nat.le_trans h.size k.size, fun i hi hn => (k.block i (Nat.lt_of_lt_of_le hi h.size) hn).trans (h.block i hi hn)⟩
theorem grownRefl (w : World) (r : Option Nat) : w.grownBy w r := ⟨rfl, rfl, rfl, Nat.le_refl _, fun _ _ _ => rfl⟩
theorem grownFresh {a b : World} (h : Fresh a b) (r : Option Nat) : a.grownBy b r := ⟨h.os, h.tape, h.output, h.size, fun i hi _ => h.block i hi⟩
theorem grownSet (w : World) (r o : Nat) (v : Value) : w.grownBy (w.setCell ⟨r, o, none⟩ v) (some r) :=
  ⟨rfl, rfl, rfl, by simp, fun i _ hn => Below.heap_setCell _ _ _ _ (fun e => hn (by rw [e]))⟩
theorem freshGrown {W0 a b : World} {r : Nat} (h : Fresh W0 a) (k : a.grownBy b (some r)) (hr : W0.heap.size ≤ r) : Fresh W0 b := h.grown k h.size (fun j hj => by cases hj; exact hr)
theorem RowAt.grown {a b : World} {g r : Nat} {t : TypeId} {cs : List Value} (h : RowAt a g t cs) (k : a.grownBy b (some r)) (hne : g ≠ r) : RowAt b g t cs := by
  unfold RowAt at *
  rw [k.block g (RowAt.lt h) (fun e => hne (Option.some.inj e))]; exact h

/-- The cursor lies in block r, at place n. -/
def Cur (w : World) (r : Nat) (cv : Value) (n : Int) : Prop := ∃ seed : Int, RowAt w r 40 [cv, .int .i64 n, .int .u64 seed]
theorem Cur.keep {a b : World} {r : Nat} {cv : Value} {n : Int} (h : Cur a r cv n) (hb : Fresh a b) : Cur b r cv n := by
  obtain ⟨s, hs⟩ := h; exact ⟨s, hs.keep hb⟩
/-- A number with a property is handed back; the cursor has gone on by d at the most; nothing else that was there has turned. -/
def OutI (w : World) (r : Nat) (cv : Value) (n d : Int) (P : Int → Prop) (e : Ending) (w' : World) : Prop :=
  ∃ x n', P x ∧ e = .returned (.int .i64 x) ∧ n ≤ n' ∧ n' ≤ n + d ∧ Cur w' r cv n' ∧ w.grownBy w' (some r)

theorem RowAt.drewN {w : World} {g : Nat} {t : TypeId} {cs : List Value} (h : RowAt w g t cs) (n : Nat) : RowAt (w.drewN n) g t cs := h
theorem grownDrewN (w : World) (n : Nat) (r : Option Nat) : w.grownBy (w.drewN n) r := ⟨rfl, rfl, rfl, Nat.le_refl _, fun _ _ _ => rfl⟩
theorem and255 (z : Int) : 0 ≤ wrap64 (bits BinOp.and IntKind.u64 (IntKind.u64.wrap z / 1099511627776) 255) ∧ wrap64 (bits BinOp.and IntKind.u64 (IntKind.u64.wrap z / 1099511627776) 255) ≤ 255 := by
  have h0 : 0 ≤ IntKind.u64.wrap z := wrap_u64_nonneg z
  have h1 : IntKind.u64.wrap z < 18446744073709551616 := by rw [IntKind.wrap_u64]; omega
  obtain ⟨y, hy⟩ := Int.eq_ofNat_of_zero_le h0
  rw [hy] at h1 ⊢
  have e : ((y : Int) / 1099511627776) = ((y / 1099511627776 : Nat) : Int) := by omega
  have hb := bits_and_u64_nat (y / 1099511627776) 255 (by omega) (by omega)
  rw [e, show (255 : Int) = ((255 : Nat) : Int) from rfl, hb]
  have hle : (y / 1099511627776) &&& 255 ≤ 255 := Nat.and_le_right
  unfold wrap64
  omega

set_option maxHeartbeats 1000000 in
theorem next_any (W0 w : World) (r : Nat) (p : Option Addr) (cap : Nat) (xs : List Int) (n : Int) (hc : Cells W0 p (xs.map (Value.int .u8))) (hb : ∀ x ∈ xs, 0 ≤ x ∧ x ≤ 255) (_hl : xs.length ≤ 65536) (hf : Fresh W0 w) (_hr : W0.heap.size ≤ r)
    (h0 : 0 ≤ n) (h1 : n ≤ 1099511627776) (hcur : Cur w r (.slice p xs.length cap) n) :
    Calls Try.prog 37 #[.pointer (some ⟨r, 0, none⟩)] w (OutI w r (.slice p xs.length cap) n 1 fun x => 0 ≤ x ∧ x ≤ 255) := by
  obtain ⟨seed, hrow⟩ := hcur
  have c0 : w.cell? ⟨r, 0, none⟩ = some (.slice p xs.length cap) := hrow.cell rfl
  have c1 : w.cell? ⟨r, 1, none⟩ = some (.int .i64 n) := hrow.cell rfl
  have c2 : w.cell? ⟨r, 2, none⟩ = some (.int .u64 seed) := hrow.cell rfl
  have f1 := hrow.frozen 1
  have f2 := hrow.frozen 2
  have R := Lib.hid hrow
  have HB := Lib.hid hb
  clear hrow hb
  by_cases hlt : n < xs.length
  · obtain ⟨b, off, rfl, hcc⟩ := Cells.at hc (k := n.toNat) (by simp; omega)
    have hx : (xs.map (Value.int .u8))[n.toNat]? = some (.int .u8 (xs[n.toNat]'(by omega))) := by simp
    have hcell := fkeep hf (hcc _ _ hx)
    have hbx := HB.out (xs[n.toNat]'(by omega)) (List.getElem_mem _)
    generalize (xs[n.toNat]'(by omega)) = x at *
    clear hx hcc hc
    have hd : decide (n < (xs.length : Int)) = true := decide_eq_true hlt
    have hd2 : decide (n + 1 ≤ (xs.length : Int)) = true := decide_eq_true (by omega)
    go_enter Try.func37, Try.ntmps37
    go_wp2
    go_quiet (fail)
    go_wp2
    go_quiet (fail)
    go_wp2
    go_quiet (fail)
    go_wp2
    go_ret
    exact ⟨x, n + 1, hbx, rfl, by omega, by omega, ⟨_, (((R.out.drewN _).set 1 _).set 2 _).drewN _⟩, grownTrans (grownTrans (grownTrans (grownDrewN _ _ _) (grownSet _ _ _ _)) (grownSet _ _ _ _)) (grownDrewN _ _ _)⟩
  · have hd : decide (n < (xs.length : Int)) = false := decide_eq_false hlt
    have hd2 : decide (n + 1 ≤ (xs.length : Int)) = false := decide_eq_false (by omega)
    go_enter Try.func37, Try.ntmps37
    go_wp2
    go_quiet (fail)
    go_wp2
    go_quiet (fail)
    go_wp2
    go_ret
    exact ⟨_, n + 1, and255 _, rfl, by omega, by omega, ⟨_, (((R.out.drewN _).set 1 _).set 2 _).drewN _⟩, grownTrans (grownTrans (grownTrans (grownDrewN _ _ _) (grownSet _ _ _ _)) (grownSet _ _ _ _)) (grownDrewN _ _ _)⟩

/-- What holds of the code that the cursor reads. -/
structure CodeAt (W0 : World) (p : Option Addr) (xs : List Int) : Prop where
  cells : Cells W0 p (xs.map (Value.int .u8))
  bytes : ∀ x ∈ xs, 0 ≤ x ∧ x ≤ 255
  len : xs.length ≤ 65536
theorem CodeAt.next {W0 : World} {p : Option Addr} {xs : List Int} (h : CodeAt W0 p xs) {w : World} {r : Nat} {cap : Nat} {n : Int} (hf : Fresh W0 w) (hr : W0.heap.size ≤ r) (h0 : 0 ≤ n) (h1 : n ≤ 1099511627776) (hcur : Cur w r (.slice p xs.length cap) n) :
    Calls Try.prog 37 #[.pointer (some ⟨r, 0, none⟩)] w (OutI w r (.slice p xs.length cap) n 1 fun x => 0 ≤ x ∧ x ≤ 255) :=
  next_any W0 w r p cap xs n h.cells h.bytes h.len hf hr h0 h1 hcur

set_option maxHeartbeats 1000000 in
theorem pick_any {W0 w : World} {r : Nat} {p : Option Addr} {cap : Nat} {xs : List Int} {n : Int} (hC : CodeAt W0 p xs) (N : Int) (hf : Fresh W0 w) (hr : W0.heap.size ≤ r) (h0 : 0 ≤ n) (h1 : n ≤ 549755813888) (hN : N ≤ 65536) (hcur : Cur w r (.slice p xs.length cap) n) :
    Calls Try.prog 16 #[.pointer (some ⟨r, 0, none⟩), .int .i64 N] w (OutI w r (.slice p xs.length cap) n 2 fun x => 0 ≤ x ∧ (x = 0 ∨ x < N)) := by
  by_cases h2 : N ≤ 1
  · go_enter Try.func16, Try.ntmps16
    go_wp2
    go_ret
    exact ⟨0, n, ⟨by omega, Or.inl rfl⟩, rfl, by omega, by omega, hcur, grownRefl _ _⟩
  · have HC := Lib.hid hcur
    have HX := Lib.hid hC
    clear hC hcur
    by_cases h3 : 200 < N
    · go_enter Try.func16, Try.ntmps16
      go_wp2_with fail
      refine (HX.out.next hf hr h0 (by omega) HC.out).mono ?_; rintro e w1 ⟨x, n1, ⟨x0, x1⟩, rfl, a1, a2, hc1, hg1⟩
      have HC1 := Lib.hid hc1
      clear hc1
      go_wp2_with fail
      refine (HX.out.next (freshGrown hf hg1 hr) hr (by omega) (by omega) HC1.out).mono ?_; rintro e w2 ⟨y, n2, ⟨y0, y1⟩, rfl, b1, b2, hc2, hg2⟩
      have HC2 := Lib.hid hc2
      clear hc2
      have hs : 0 ≤ x * 256 + y := by omega
      go_wp2
      go_ret
      exact ⟨(x * 256 + y) % N, n2, ⟨Int.emod_nonneg _ (by omega), Or.inr (Int.emod_lt_of_pos _ (by omega))⟩, rfl, by omega, by omega, HC2.out, grownTrans hg1 hg2⟩
    · go_enter Try.func16, Try.ntmps16
      go_wp2_with fail
      refine (HX.out.next hf hr h0 (by omega) HC.out).mono ?_; rintro e w1 ⟨x, n1, ⟨x0, x1⟩, rfl, a1, a2, hc1, hg1⟩
      have HC1 := Lib.hid hc1
      clear hc1
      go_wp2
      go_ret
      exact ⟨x % N, n1, ⟨Int.emod_nonneg _ (by omega), Or.inr (Int.emod_lt_of_pos _ (by omega))⟩, rfl, by omega, by omega, HC1.out, hg1⟩

/-- A bool is handed back; the cursor has gone on by d at the most. -/
def OutB (w : World) (r : Nat) (cv : Value) (n d : Int) (e : Ending) (w' : World) : Prop :=
  ∃ (x : Bool) (n' : Int), e = .returned (.bool x) ∧ n ≤ n' ∧ n' ≤ n + d ∧ Cur w' r cv n' ∧ w.grownBy w' (some r)
set_option maxHeartbeats 1000000 in
theorem one_any {W0 w : World} {r : Nat} {p : Option Addr} {cap : Nat} {xs : List Int} {n : Int} (hC : CodeAt W0 p xs) (N : Int) (hf : Fresh W0 w) (hr : W0.heap.size ≤ r) (h0 : 0 ≤ n) (h1 : n ≤ 549755813888) (hN : N ≤ 65536) (hcur : Cur w r (.slice p xs.length cap) n) :
    Calls Try.prog 13 #[.pointer (some ⟨r, 0, none⟩), .int .i64 N] w (OutB w r (.slice p xs.length cap) n 2) := by
  have HC := Lib.hid hcur
  have HX := Lib.hid hC
  clear hC hcur
  go_enter Try.func13, Try.ntmps13
  go_wp2_with fail
  refine (pick_any HX.out N hf hr h0 h1 hN HC.out).mono ?_; rintro e w1 ⟨x, n1, ⟨x0, x1⟩, rfl, a1, a2, hc1, hg1⟩
  have HC1 := Lib.hid hc1
  clear hc1
  go_wp2
  go_ret
  exact ⟨_, n1, rfl, a1, a2, HC1.out, hg1⟩

set_option maxHeartbeats 1000000 in
theorem among_any {W0 w : World} {r : Nat} {p : Option Addr} {cap : Nat} {xs : List Int} {n : Int} (hC : CodeAt W0 p xs) (q : Option Addr) (c2 : Nat) (ys : List Int) (hI : Ints w q ys) (hpos : 0 < ys.length) (hq : ∀ b o, q = some ⟨b, o, none⟩ → b ≠ r) (hf : Fresh W0 w) (hr : W0.heap.size ≤ r) (h0 : 0 ≤ n) (h1 : n ≤ 549755813888) (hN : ys.length ≤ 65536) (hcur : Cur w r (.slice p xs.length cap) n) :
    Calls Try.prog 30 #[.pointer (some ⟨r, 0, none⟩), .slice q ys.length c2] w (OutI w r (.slice p xs.length cap) n 2 fun x => x ∈ ys) := by
  have HC := Lib.hid hcur
  have HX := Lib.hid hC
  clear hC hcur
  go_enter Try.func30, Try.ntmps30
  go_wp2_with fail
  refine (pick_any HX.out _ hf hr h0 h1 (by omega) HC.out).mono ?_; rintro e w1 ⟨x, n1, ⟨x0, x1⟩, rfl, a1, a2, hc1, hg1⟩
  have HC1 := Lib.hid hc1
  clear hc1
  have hlt : x.toNat < ys.length := by omega
  obtain ⟨b, o, y, rfl, hy, hc⟩ := hI.at hlt
  have hcell : w1.cell? ⟨b, o + x.toNat, none⟩ = some (.int .i64 y) := hg1.cell hc (fun e => hq b o rfl (Option.some.inj e))
  have hmem := List.mem_of_getElem? hy
  have HM := Lib.hid hmem
  have hz : x < (ys.length : Int) := by omega
  clear hc hy hI hmem
  go_wp2
  go_ret
  exact ⟨y, n1, HM.out, rfl, a1, a2, HC1.out, hg1⟩
theorem grownNone {a b : World} (h : a.grownBy b none) (r : Option Nat) : a.grownBy b r := ⟨h.os, h.tape, h.output, h.size, fun i hi _ => h.block i hi (by simp)⟩
theorem grownOwn {w a b : World} {r g : Nat} (h : w.grownBy a (some r)) (k : a.grownBy b (some g)) (hg : w.heap.size ≤ g) : w.grownBy b (some r) :=
  ⟨k.os.trans h.os, k.tape.trans h.tape, k.output.trans h.output, Nat.le_trans h.size k.size, fun i hi hn => (k.block i (Nat.lt_of_lt_of_le hi h.size) (fun e => by cases e; omega)).trans (h.block i hi hn)⟩
theorem Cur.grown {a b : World} {r g : Nat} {cv : Value} {n : Int} (h : Cur a r cv n) (k : a.grownBy b (some g)) (hne : r ≠ g) : Cur b r cv n := by
  obtain ⟨s, hs⟩ := h; exact ⟨s, hs.grown k hne⟩
end Go.Proofs.Ytlapicgeokjpjaa
