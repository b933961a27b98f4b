/- Contracts: copies of and comparisons between slices of ints; appending. -/
import Derived.Test.YtjlhjkdmpngkbaaRange
namespace Go.Proofs.Ytjlhjkdmpngkbaa
open Go.RowKit

theorem infoInt : (Try.prog.info? 3).map (fun i => (i.zero, i.size, i.bytes)) = some (some (.int .i64 0), 1, 8) := by kernel_rfl

theorem mkInts (n : Nat) (hn : n * 8 ≤ 281474976710656) (u : World) : (Instr.makeSlice 69 (.int .i64 (n : Int)) (.int .i64 (n : Int))).run Try.prog u =
      .ok (.slice (some ⟨u.heap.size, 0, none⟩) n n) (u.alloc (.cells ((List.replicate n (iv 0)).toArray) 3)) := by
  obtain ⟨i0, hi, hz0, hz1, hz2⟩ := info_parts infoInt
  have h := run_make (P := Try.prog) u 69 3 i0 (.int .i64 0) Try.underlying69 hi hz0 .i64 .i64 n n (by omega) (Int.le_refl _) (by rw [hz2]; omega) (by omega)
  rw [Int.toNat_natCast, hz1, Nat.mul_one] at h
  rw [← madeCells_one]
  simpa [Value.cells] using h

/-- One int appended to a row of the call's own. -/
theorem wpList_app_ints {ops : Array Oper} {rest : List Oper} {o : Oper} {a : Act} {Q : Exit → Act → World → Prop} (w0 w1 : World) (v : Value) (xs : List Int) (x : Int) (hgd : o.guard = none) (s t : Operand)
    (ho : o.op = .call { callee := .builtin .append, args := #[s, t], argTypes := #[69, 69] }) (hs : a.eval s = v) (hown : w1.ownsRow w0.heap.size 3 1 v xs.length (xs.map iv))
    (hx : a.eval t = .slice (some ⟨w1.heap.size, 0, none⟩) 1 1) (hn : xs.length ≤ 1099511627776) (hf : Fresh w0 w1)
    (h : ∀ v' w', w'.ownsRow w0.heap.size 3 1 v' (xs ++ [x]).length ((xs ++ [x]).map iv) → Fresh w0 w' → wpList Try.prog ops Q rest (a.put o.dst v') w') :
    wpList Try.prog ops Q (o :: rest) a (w1.alloc (.cells #[.int .i64 x] 3)) := by
  obtain ⟨i0, hi, hz0, hz1, hz2⟩ := info_parts infoInt
  refine wpList_append_own _ hgd s t 69 ho w0.heap.size 3 i0 (.int .i64 0) 1 8 Try.underlying69 hi hz0 hz1 hz2 rfl (by decide) v xs.length (xs.map iv) hs (hown.alloc _) ⟨w1.heap.size, 0, none⟩ 1 1 [iv x] hx rfl one_new
    (by intro u hu; simp at hu; subst hu; rfl) (by unfold maxLen; omega) (by omega) (Nat.le_trans hf.size (by simp)) ?_
  intro v' w' hown' hgrow _
  refine h v' w' ?_ (fgrown (fnew hf _) hgrow (own_block hown))
  rw [List.map_append, List.length_append]
  exact hown'

/-- The call hands back a slice of ints of its own. -/
def OutInts (w : World) (L : List Int) (e : Ending) (w' : World) : Prop := ∃ p cap, e = .returned (.slice p L.length cap) ∧ Own w' w.heap.size 3 p (L.map iv) ∧ Fresh w w'
/-- The same, and a bool. -/
def OutIntsB (w : World) (L : List Int) (b : Bool) (e : Ending) (w' : World) : Prop := ∃ p cap, e = .returned (.tuple #[.slice p L.length cap, .bool b]) ∧ Own w' w.heap.size 3 p (L.map iv) ∧ Fresh w w'
theorem Own.ints {w : World} {base : Nat} {t : TypeId} {p : Option Addr} {L : List Int} (h : Own w base t p (L.map iv)) : Ints w p L := h.cells

set_option maxHeartbeats 400000 in
theorem toIntS_any (p : Option Addr) (cap : Nat) (xs : List Int) (w : World) (hI : Ints w p xs) (hn : xs.length ≤ 1048576) :
    Calls Try.prog 127 #[.slice p xs.length cap] w fun e w' =>
      e = .returned (.slice (some ⟨w.heap.size, 0, none⟩) xs.length xs.length) ∧ RowAt w' w.heap.size 3 (xs.map iv) ∧ Fresh w w' := by
  have hmk := mkInts xs.length (by omega)
  go_enter Try.func127, Try.ntmps127
  go_wp2
  go_loopw [4] (fun i wr => ∃ k : Nat, k ≤ xs.length ∧ i = .int .i64 k ∧ RowAt wr w.heap.size 3 ((xs.map iv).take k ++ List.replicate ((xs.map iv).length - k) (iv 0)) ∧ Fresh w wr)
    (fun i _ => xs.length - (intOf i).toNat)
  case atStart => exact ⟨0, Nat.zero_le _, rfl, by simpa using RowAt.new w 3 (List.replicate xs.length (iv 0)), fnew (frefl _) _⟩
  case round =>
    obtain ⟨k, hk, rfl, hrow, hf⟩ := hrel
    by_cases hlt : k < xs.length
    · obtain ⟨b, off, x, rfl, hx, hc0⟩ := hI.at hlt
      have hc := fkeep hf hc0
      have hcell := hrow.cell (i := k) (v := iv 0) (get_take_repl _ _ _ (by simpa using hlt))
      have hfr := hrow.frozen k
      have HX := Lib.hid hx
      have HR := Lib.hid hrow
      have HF := Lib.hid hf
      clear hx hc0 hI hrow hf
      go_wp2
      go_roundw
      case rel =>
        refine ⟨k + 1, by omega, by go_num, ?_, fset HF.out (Nat.le_refl _) _⟩
        have := HR.out.set k (iv x)
        rw [set_take_repl _ _ _ (iv x) (by rw [List.getElem?_map, HX.out]; rfl)] at this
        exact this
      case measure => simp [intOf]; omega
    · have hkn : k = xs.length := by omega
      subst hkn
      have HR := Lib.hid hrow
      have HF := Lib.hid hf
      clear hrow hf
      go_wp2
      go_ret
      refine ⟨rfl, ?_, HF.out⟩
      have := HR.out
      rw [take_repl_end _ _ _ (by simp)] at this
      exact this

def eqInts (xs ys : List Int) : Bool := decide (xs = ys)
set_option maxHeartbeats 400000 in
theorem eqIntS_any (p q : Option Addr) (c d : Nat) (xs ys : List Int) (w : World) (hx : Ints w p xs) (hy : Ints w q ys) (hn : xs.length ≤ 1099511627776) :
    Calls Try.prog 67 #[.slice p xs.length c, .slice q ys.length d] w fun e w' => e = .returned (.bool (eqInts xs ys)) ∧ Fresh w w' := by
  by_cases hl : xs.length = ys.length
  · have hl' : (((xs.length : Int) != (ys.length : Int))) = false := by rw [hl]; simp
    go_enter Try.func67, Try.ntmps67
    have HL := Lib.hid hl
    clear hl
    go_wp2
    go_loopw [5] (fun i wr => ∃ k : Nat, k ≤ xs.length ∧ i = .int .i64 k ∧ xs.take k = ys.take k ∧ Fresh w wr) (fun i _ => xs.length - (intOf i).toNat)
    case atStart => exact ⟨0, Nat.zero_le _, rfl, rfl, frefl _⟩
    case round =>
      obtain ⟨k, hk, rfl, he, hf⟩ := hrel
      by_cases hlt : k < xs.length
      · obtain ⟨b, off, x, rfl, ex, hc0⟩ := hx.at hlt
        obtain ⟨b', off', y, rfl, ey, hc0'⟩ := hy.at (k := k) (by rw [← HL.out]; exact hlt)
        have hc := fkeep hf hc0
        have hc' := fkeep hf hc0'
        have HX := Lib.hid ex
        have HY := Lib.hid ey
        have HE := Lib.hid he
        have HF := Lib.hid hf
        clear ex ey he hf hc0 hc0' hx hy
        have h1 : (k : Int) < (xs.length : Int) := by omega
        have h2 : (k : Int) < (ys.length : Int) := by rw [← HL.out]; omega
        by_cases hxy : x = y
        · have HXY := Lib.hid hxy
          have hb : (x != y) = false := by rw [hxy]; simp
          clear hxy
          go_wp2
          go_quiet (fail)
          go_wp2
          go_roundw
          case rel => exact ⟨k + 1, by omega, by go_num, take_eq_step HE.out HX.out HY.out HXY.out, fdrewN HF.out _⟩
          case measure => simp [intOf]; omega
        · have HXY := Lib.hid hxy
          have hb : (x != y) = true := by simpa using hxy
          clear hxy
          go_wp2
          go_quiet (fail)
          go_wp2
          go_ret
          exact ⟨ret_bool (by simp [eqInts, ne_of_get HX.out HY.out HXY.out]), fdrewN HF.out _⟩
      · have hkn : k = xs.length := by omega
        subst hkn
        have HE := Lib.hid he
        have HF := Lib.hid hf
        clear he hf
        go_wp2
        go_ret
        exact ⟨ret_bool (by simp [eqInts, eq_of_take HE.out (Nat.le_refl _) (Nat.le_of_eq HL.out.symm)]), HF.out⟩
  · have hl' : (((xs.length : Int) != (ys.length : Int))) = true := by simpa [bne_iff_ne] using fun h => hl (by omega)
    have hne : xs ≠ ys := fun h => hl (by rw [h])
    have HN := Lib.hid hne
    clear hne hl
    go_enter Try.func67, Try.ntmps67
    go_wp2
    go_ret
    exact ⟨ret_bool (by simp [eqInts, HN.out]), frefl _⟩

end Go.Proofs.Ytjlhjkdmpngkbaa
