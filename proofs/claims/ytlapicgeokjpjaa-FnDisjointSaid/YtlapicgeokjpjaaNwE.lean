/- Contracts: a kind and two nodes are drawn, the reference's side. -/
import Derived.Test.YtlapicgeokjpjaaCu
import Derived.Test.YtlapicgeokjpjaaU5
namespace Go.Proofs.Ytlapicgeokjpjaa
open Go.RowKit Go.PlainAid

set_option maxHeartbeats 4000000 in
set_option maxRecDepth 20000 in
theorem kind7_any {W0 w : World} {r : Nat} {p : Option Addr} {cap : Nat} {xs : List Int} {n : Int} (hC : CodeAt W0 p xs) (hf : Fresh W0 w) (hr : W0.heap.size ≤ r) (h0 : 0 ≤ n) (h1 : n ≤ 274877906944) (hcur : Cur w r (.slice p xs.length cap) n) :
    Calls Try.prog 17 #[.pointer (some ⟨r, 0, none⟩)] w (OutI w r (.slice p xs.length cap) n 4 fun x => 0 ≤ x ∧ x ≤ 4) := by
  have HX := Lib.hid hC
  have hrw : r < w.heap.size := by obtain ⟨_, hh⟩ := hcur; exact hh.lt
  obtain ⟨q, hq⟩ : ∃ q, q = w.heap.size := ⟨_, rfl⟩
  obtain ⟨W1, hW1⟩ : ∃ W, W = w.alloc (.cells #[.int .i64 1, .int .i64 2, .int .i64 3, .int .i64 1, .int .i64 2, .int .i64 3, .int .i64 0, .int .i64 4] 3) := ⟨_, rfl⟩
  have hf1 : Fresh w W1 := by rw [hW1]; exact fnew (frefl _) _
  have hr1 : RowAt W1 q 3 [iv 1, iv 2, iv 3, iv 1, iv 2, iv 3, iv 0, iv 4] := by rw [hW1, hq]; exact RowAt.new _ _ _
  have hqr : q ≠ r := by omega
  have HC1 := Lib.hid (hcur.keep hf1)
  have HF1 := Lib.hid (fstep hf hf1)
  have HG1 := Lib.hid (grownFresh hf1 (some r))
  have HR1 := Lib.hid hr1
  have HW1 := Lib.hid hW1
  have HQ := Lib.hid hq
  clear hC hcur hf1 hr1 hW1 hf hq
  go_enter Try.func17, Try.ntmps17
  go_wp2_with fail
  rw [← HQ.out, ← HW1.out]
  refine (pick_any HX.out 12 HF1.out hr (by omega) (by omega) (by omega) HC1.out).mono ?_
  rintro e w2 ⟨x2, n2, ⟨p2, q2⟩, rfl, a2, b2, hc2, hg2⟩
  have HC2 := Lib.hid hc2
  have HF2 := Lib.hid (freshGrown HF1.out hg2 hr)
  have HG2 := Lib.hid (grownTrans HG1.out hg2)
  have hr2 := HR1.out.grown hg2 hqr
  have hx12 : 0 ≤ x2 ∧ x2 ≤ 11 := by omega
  clear hc2 hg2 p2 q2
  by_cases h11 : x2 = 11
  · have w1 : x2.tdiv 11 = 1 := by rw [h11]; rfl
    have HAM := Lib.hid (among_any HX.out (some ⟨q, 0, none⟩) 8 [1, 2, 3, 1, 2, 3, 0, 4] (show Ints w2 _ _ from hr2.cells) (by simp) (fun b o e => by cases e; exact hqr) HF2.out hr (by omega) (by omega) (by simp) HC2.out)
    simp only [List.length_cons, List.length_nil] at HAM
    clear hr2 h11
    go_wp2_with fail
    refine (HAM.out).mono ?_
    rintro e w3 ⟨z, n3, hz, rfl, a3, b3, hc3, hg3⟩
    have hzb : 0 ≤ z ∧ z ≤ 4 := by simp at hz; omega
    have HC3 := Lib.hid hc3
    have HG3 := Lib.hid (grownTrans HG2.out hg3)
    clear hc3 hg3 hz
    go_wp2
    go_ret
    exact ⟨z, n3, hzb, rfl, by omega, by omega, HC3.out, HG3.out⟩
  · have w1 : x2.tdiv 11 = 0 := Int.tdiv_eq_zero_of_lt (by omega) (by omega)
    have hr6 : Ints w2 (some ⟨q, 0, none⟩) [1, 2, 3, 1, 2, 3] := Or.inr ⟨q, 0, rfl, fun i v hv => by
      rw [Nat.zero_add]
      refine hr2.cell ?_
      have hlt : i < 6 := (List.getElem?_eq_some_iff.1 hv).1
      match i, hlt with
      | 0, _ => exact hv
      | 1, _ => exact hv
      | 2, _ => exact hv
      | 3, _ => exact hv
      | 4, _ => exact hv
      | 5, _ => exact hv⟩
    have HAM := Lib.hid (among_any HX.out (some ⟨q, 0, none⟩) 8 [1, 2, 3, 1, 2, 3] hr6 (by simp) (fun b o e => by cases e; exact hqr) HF2.out hr (by omega) (by omega) (by simp) HC2.out)
    simp only [List.length_cons, List.length_nil] at HAM
    clear hr2 hr6 h11
    go_wp2_with fail
    refine (HAM.out).mono ?_
    rintro e w3 ⟨z, n3, hz, rfl, a3, b3, hc3, hg3⟩
    have hzb : 0 ≤ z ∧ z ≤ 4 := by simp at hz; omega
    have HC3 := Lib.hid hc3
    have HG3 := Lib.hid (grownTrans HG2.out hg3)
    clear hc3 hg3 hz
    go_wp2
    go_ret
    exact ⟨z, n3, hzb, rfl, by omega, by omega, HC3.out, HG3.out⟩
/-- Two numbers are handed back. -/
def OutEn (w : World) (r : Nat) (cv : Value) (n : Int) (e : Ending) (w' : World) : Prop := ∃ a b n', e = .returned (.tuple #[.int .i64 a, .int .i64 b]) ∧ n ≤ n' ∧ n' ≤ n + 20 ∧ Cur w' r cv n' ∧ w.grownBy w' (some r)
/-- A text is handed back. -/
def OutTx (w : World) (r : Nat) (cv : Value) (n d : Int) (P : ByteArray → Prop) (e : Ending) (w' : World) : Prop := ∃ x n', P x ∧ e = .returned (.string x) ∧ n ≤ n' ∧ n' ≤ n + d ∧ Cur w' r cv n' ∧ w.grownBy w' (some r)
set_option maxHeartbeats 1000000 in
theorem of_any {W0 w : World} {r : Nat} {p : Option Addr} {cap : Nat} {xs : List Int} {n : Int} (hC : CodeAt W0 p xs) (q : Option Addr) (c2 : Nat) (ys : List ByteArray) (hI : Strs w q ys) (hpos : 0 < ys.length) (hq : ∀ b o, q = some ⟨b, o, none⟩ → b ≠ r) (hf : Fresh W0 w) (hr : W0.heap.size ≤ r) (h0 : 0 ≤ n) (h1 : n ≤ 549755813888) (hN : ys.length ≤ 65536) (hcur : Cur w r (.slice p xs.length cap) n) :
    Calls Try.prog 29 #[.pointer (some ⟨r, 0, none⟩), .slice q ys.length c2] w (OutTx w r (.slice p xs.length cap) n 2 fun x => x ∈ ys) := by
  have HC := Lib.hid hcur
  have HX := Lib.hid hC
  clear hC hcur
  go_enter Try.func29, Try.ntmps29
  go_wp2_with fail
  refine (pick_any HX.out _ hf hr h0 h1 (by omega) HC.out).mono ?_; rintro e w1 ⟨x, n1, ⟨x0, x1⟩, rfl, a1, a2, hc1, hg1⟩
  have HC1 := Lib.hid hc1
  clear hc1
  have hlt : x.toNat < ys.length := by omega
  obtain ⟨b, o, y, rfl, hy, hc⟩ := hI.at hlt
  have hcell : w1.cell? ⟨b, o + x.toNat, none⟩ = some (.string y) := hg1.cell hc (fun e => hq b o rfl (Option.some.inj e))
  have hmem := List.mem_of_getElem? hy
  have HM := Lib.hid hmem
  have hz : x < (ys.length : Int) := by omega
  clear hc hy hI hmem
  go_wp2
  go_ret
  exact ⟨y, n1, HM.out, rfl, a1, a2, HC1.out, hg1⟩
end Go.Proofs.Ytlapicgeokjpjaa
