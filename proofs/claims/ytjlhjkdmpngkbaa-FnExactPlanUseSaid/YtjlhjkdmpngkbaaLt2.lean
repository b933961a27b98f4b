/- Contracts: lists of lights copied and compared. -/
import Derived.Test.YtjlhjkdmpngkbaaLt
import Derived.StillTailTactics
namespace Go.Proofs.Ytjlhjkdmpngkbaa
open Go.RowKit Go.PlainAid

theorem setL_rowL (f : LL → List Value) (l' : List LL) (a : LL) (m : Nat) (z : List Value) (hf : ∀ x, (f x).length = z.length) : setL (l'.flatMap f ++ zs z (m + 1)) (l'.length * z.length) (f a) = (l' ++ [a]).flatMap f ++ zs z m := by
  have hl : (l'.flatMap f).length = l'.length * z.length := flat_len f z.length hf l'
  rw [zs_succ, ← hl, setL_mid (f a) _ z _ (by rw [hf])]
  simp

set_option maxHeartbeats 4000000 in
theorem toLightS_any (p : Option Addr) (cap : Nat) (l : List LL) (w : World) (hI : Lts w p l) (hs : LtsSmall l) :
    Calls Try.prog 100 #[.slice p l.length cap] w fun e w' =>
      ∃ l' : List LL, e = .returned (.slice (some ⟨w.heap.size, 0, none⟩) l'.length l'.length) ∧ l'.map LL.val = l.map LL.val ∧ RowAt w' w.heap.size 142 (l'.flatMap llC) ∧ (∀ x ∈ l', Own w' (w.heap.size + 1) 3 x.r.q (x.r.fibs.map iv)) ∧ Fresh w w' := by
  have hn := hs.1
  have HSM := Lib.hid hs
  clear hs
  have hmk := mkRow (z := zLt) Try.underlying60 infoLt rfl (by decide) l.length (by omega) (by omega)
  go_enter Try.func100, Try.ntmps100
  go_wp2
  go_loopw [4] (fun i wr => ∃ (k : Nat) (l' : List LL), k ≤ l.length ∧ l'.length = k ∧ i = .int .i64 k ∧ l'.map LL.val = (l.take k).map LL.val ∧ RowAt wr w.heap.size 142 (l'.flatMap llC ++ zs zLt (l.length - k)) ∧ (∀ x ∈ l', Own wr (w.heap.size + 1) 3 x.r.q (x.r.fibs.map iv)) ∧ Fresh w wr)
    (fun i _ => l.length - (intOf i).toNat)
  case atStart => exact ⟨0, [], Nat.zero_le _, rfl, rfl, rfl, RowAt.new w _ _, fun x hx => by simp at hx, fnew (frefl _) _⟩
  case round =>
    obtain ⟨k, l', hk, hlk, rfl, hval, hrow, hown, hf⟩ := hrel
    have HLK := Lib.hid hlk
    have HV := Lib.hid hval
    have HO := Lib.hid hown
    clear hlk hval hown
    by_cases hlt : k < l.length
    · obtain ⟨b, off, x, rfl, hx, hmem, hints, hc0, hc1, hc2, hc3, hc4⟩ := (hI.keep hf).at hlt
      have hltz : (k : Int) < (l.length : Int) := by omega
      have hsm := HSM.out.2 x hmem
      have HX := Lib.hid hx
      have HR := Lib.hid hrow
      have HF := Lib.hid hf
      have HIN := Lib.hid hints
      have hlw := hrow.lt
      clear hx hmem hrow hf hints
      go_wp2_with fail
      refine (toLight_any x _ HIN.out hsm).mono ?_
      rintro e w1 ⟨y, rfl, hyv, hyo, hb1⟩
      have hr1 := HR.out.keep hb1
      have gz : ∀ r v, zLt[r]? = some v → (l'.flatMap llC ++ zs zLt (l.length - k))[k * 5 + r]? = some v := by
        intro r v hv
        have hr : r < 5 := by
          rcases Nat.lt_or_ge r 5 with h | h
          · exact h
          · rw [List.getElem?_eq_none (by simpa using h)] at hv; cases hv
        have hl : (l'.flatMap llC).length = k * 5 := by rw [flat_len llC 5 (fun _ => rfl), HLK.out]
        rw [List.getElem?_append_right (by omega), hl, Nat.add_sub_cancel_left]
        have := zs_get zLt (l.length - k) 0 r (by omega) (by simpa using hr)
        rw [Nat.zero_mul, Nat.zero_add] at this
        rw [this]; exact hv
      have hcell0 : w1.cell? ⟨w.heap.size, k * 5, none⟩ = some (.int .i64 0) := hr1.cell (gz 0 _ rfl)
      have hcell1 : w1.cell? ⟨w.heap.size, k * 5 + 1, none⟩ = some (.int .i64 0) := hr1.cell (gz 1 _ rfl)
      have hcell2 : w1.cell? ⟨w.heap.size, k * 5 + 2, none⟩ = some (.slice none 0 0) := hr1.cell (gz 2 _ rfl)
      have hcell3 : w1.cell? ⟨w.heap.size, k * 5 + 3, none⟩ = some (.int .i64 0) := hr1.cell (gz 3 _ rfl)
      have hcell4 : w1.cell? ⟨w.heap.size, k * 5 + 4, none⟩ = some (.int .i64 0) := hr1.cell (gz 4 _ rfl)
      have hfr0 := hr1.frozen (k * 5)
      have hfr1 := hr1.frozen (k * 5 + 1)
      have hfr2 := hr1.frozen (k * 5 + 2)
      have hfr3 := hr1.frozen (k * 5 + 3)
      have hfr4 := hr1.frozen (k * 5 + 4)
      have HR1 := Lib.hid hr1
      have HYV := Lib.hid hyv
      have HYO := Lib.hid hyo
      have HB1 := Lib.hid hb1
      clear hr1 gz hyv hyo hb1
      go_wp2
      go_roundw
      case rel =>
        refine ⟨k + 1, l' ++ [y], by omega, by simp [HLK.out], by go_num, ?_, ?_, ?_, fset (fset (fset (fset (fset (fstep HF.out HB1.out) (Nat.le_refl _) _) (Nat.le_refl _) _) (Nat.le_refl _) _) (Nat.le_refl _) _) (Nat.le_refl _) _⟩
        · rw [List.map_append, HV.out, List.take_add_one, HX.out, List.map_append]
          simp [HYV.out]
        · have := (((((HR1.out.set (k * 5) (iv y.id)).set (k * 5 + 1) (iv y.r.start)).set (k * 5 + 2) (.slice y.r.q y.r.fibs.length y.r.cap)).set (k * 5 + 3) (iv y.f)).set (k * 5 + 4) (iv y.c))
          have e : l.length - k = (l.length - (k + 1)) + 1 := by omega
          have hs := setL_rowL llC l' y (l.length - (k + 1)) zLt (fun _ => rfl)
          rw [HLK.out] at hs
          rw [e] at this
          have hs' : ((((((l'.flatMap llC ++ zs zLt (l.length - (k + 1) + 1)).set (k * 5) (iv y.id)).set (k * 5 + 1) (iv y.r.start)).set (k * 5 + 2) (.slice y.r.q y.r.fibs.length y.r.cap)).set (k * 5 + 3) (iv y.f)).set (k * 5 + 4) (iv y.c)) = (l' ++ [y]).flatMap llC ++ zs zLt (l.length - (k + 1)) := hs
          rw [hs'] at this
          exact this
        · intro z hz
          rw [List.mem_append] at hz
          refine Own.setOther (Own.setOther (Own.setOther (Own.setOther (Own.setOther (?_) (by omega) _) (by omega) _) (by omega) _) (by omega) _) (by omega) _
          rcases hz with hz | hz
          · exact (HO.out z hz).keep HB1.out
          · simp at hz; subst hz
            exact HYO.out.mono (by omega)
      case measure => simp [intOf]; omega
    · have hkn : k = l.length := by omega
      have hltz : ¬ (k : Int) < (l.length : Int) := by omega
      have HR := Lib.hid hrow
      have HF := Lib.hid hf
      clear hrow hf
      go_wp2
      go_ret
      refine ⟨l', ?_, ?_, ?_, HO.out, HF.out⟩
      · rw [HLK.out, hkn]; rfl
      · have := HV.out; rw [hkn, List.take_length] at this; exact this
      · have := HR.out
        rw [hkn, Nat.sub_self, zs_zero, List.append_nil] at this
        exact this

set_option maxHeartbeats 2000000 in
set_option maxRecDepth 100000 in
theorem eqLightS_same (p q : Option Addr) (c d : Nat) (l l' : List LL) (w : World) (hv : l'.map LL.val = l.map LL.val) (hx : Lts w p l) (hy : Lts w q l') (hs : LtsSmall l) :
    Calls Try.prog 105 #[.slice p l.length c, .slice q l'.length d] w fun e w' => e = .returned (.bool true) ∧ Fresh w w' := by
  have hlen : l'.length = l.length := by have := congrArg List.length hv; simpa using this
  have hn := hs.1
  have HSM := Lib.hid hs
  have HV := Lib.hid hv
  rw [hlen]
  have HLE := Lib.hid hlen
  clear hs hv hlen
  go_enter Try.func105, Try.ntmps105
  go_wp2
  go_loopw [5] (fun i wr => ∃ k : Nat, k ≤ l.length ∧ i = .int .i64 k ∧ Fresh w wr) (fun i _ => l.length - (intOf i).toNat)
  case atStart => exact ⟨0, Nat.zero_le _, rfl, frefl _⟩
  case round =>
    obtain ⟨k, hk, rfl, hf⟩ := hrel
    by_cases hlt : k < l.length
    · obtain ⟨b, off, x, rfl, hx0, hm, hi, hc0, hc1, hc2, hc3, hc4⟩ := (hx.keep hf).at hlt
      obtain ⟨b', off', y, rfl, hy0, _, hi', hc0', hc1', hc2', hc3', hc4'⟩ := (hy.keep hf).at (by rw [HLE.out]; exact hlt)
      have hxy : x.val = y.val := by
        have := congrArg (fun l => l[k]?) HV.out
        simp only [List.getElem?_map, hx0, hy0, Option.map_some, Option.some.injEq] at this
        exact this.symm
      have hsm := HSM.out.2 x hm
      have hltz : (k : Int) < (l.length : Int) := by omega
      have HF := Lib.hid hf
      have HI := Lib.hid hi
      have HI' := Lib.hid hi'
      have HXY := Lib.hid hxy
      clear hx0 hy0 hx hy hf hi hi' hxy hm
      go_wp2
      go_still_tail 8, (by kernel_rfl)
      change wpList _ _ _ _ _ wr.drew
      have HF2 : Hid (Fresh w wr.drew) := fdrew HF.out
      have HI2 := Lib.hid (HI.out.keep (fdrew (frefl wr)))
      have HI2' := Lib.hid (HI'.out.keep (fdrew (frefl wr)))
      generalize wr.drew = w2 at HF2 HI2 HI2'
      go_wp2_with fail
      refine (eqLight_same x y _ HXY.out HI2.out HI2'.out hsm).mono ?_
      rintro e w3 ⟨rfl, hb3⟩
      have HF3 := Lib.hid (fstep HF2.out hb3)
      clear hb3
      go_wp2
      go_roundw
      case rel => exact ⟨k + 1, by omega, by go_num, HF3.out⟩
      case measure => simp [intOf]; omega
    · have hkn : k = l.length := by omega
      have hltz : ¬ (k : Int) < (l.length : Int) := by omega
      have HF := Lib.hid hf
      clear hf
      go_wp2
      go_ret
      exact ⟨rfl, HF.out⟩
end Go.Proofs.Ytjlhjkdmpngkbaa
