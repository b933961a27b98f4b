/- Slices of structs of two ints: what they read as, appending one; lists of blocks copied and compared, as one value. -/
import Derived.Test.YtjlhjkdmpngkbaaInts
import Derived.StillTailTactics
import Derived.Deep.RegionHeld3
import Derived.Test.YtjlhjkdmpngkbaaLt
namespace Go.Proofs.Ytjlhjkdmpngkbaa
open Go.RowKit

/-- The two cells of a pair. -/
def pc (b : Int × Int) : List Value := [iv b.1, iv b.2]
def pcs (l : List (Int × Int)) : List Value := l.flatMap pc
theorem pcs_nil : pcs [] = [] := rfl
theorem pcs_app (l r : List (Int × Int)) : pcs (l ++ r) = pcs l ++ pcs r := by simp [pcs]
theorem pcs_cons (b : Int × Int) (l : List (Int × Int)) : pcs (b :: l) = iv b.1 :: iv b.2 :: pcs l := rfl
theorem pcs_len (l : List (Int × Int)) : (pcs l).length = l.length * 2 := by
  induction l with
  | nil => rfl
  | cons b l ih => rw [pcs_cons, List.length_cons, List.length_cons, ih, List.length_cons]; omega
theorem pcs_get {l : List (Int × Int)} {k : Nat} {b : Int × Int} (h : l[k]? = some b) : (pcs l)[k * 2]? = some (iv b.1) ∧ (pcs l)[k * 2 + 1]? = some (iv b.2) := by
  induction l generalizing k with
  | nil => simp at h
  | cons c l ih =>
    rw [pcs_cons]
    cases k with
    | zero => simp at h; subst h; exact ⟨rfl, rfl⟩
    | succ k =>
      have h' : l[k]? = some b := by simpa using h
      have e : (k + 1) * 2 = k * 2 + 1 + 1 := by omega
      obtain ⟨i1, i2⟩ := ih h'
      rw [e]
      exact ⟨by rw [List.getElem?_cons_succ, List.getElem?_cons_succ]; exact i1, by rw [List.getElem?_cons_succ, List.getElem?_cons_succ]; exact i2⟩
/-- A slice of pairs. -/
def Prs (w : World) (p : Option Addr) (l : List (Int × Int)) : Prop := Cells w p (pcs l)
theorem Prs.keep {w w' : World} {p : Option Addr} {l : List (Int × Int)} (h : Prs w p l) (hb : Fresh w w') : Prs w' p l := Cells.keep h hb
theorem Prs.at {w : World} {p : Option Addr} {l : List (Int × Int)} (h : Prs w p l) {k : Nat} (hk : k < l.length) :
    ∃ b off x y, p = some ⟨b, off, none⟩ ∧ l[k]? = some (x, y) ∧ w.cell? ⟨b, off + k * 2, none⟩ = some (.int .i64 x) ∧ w.cell? ⟨b, off + k * 2 + 1, none⟩ = some (.int .i64 y) := by
  obtain ⟨b, off, rfl, hc⟩ := Cells.at h (k := 0) (by rw [pcs_len]; omega)
  have hx : l[k]? = some (l[k].1, l[k].2) := by simp [hk]
  obtain ⟨h1, h2⟩ := pcs_get hx
  exact ⟨b, off, l[k].1, l[k].2, rfl, hx, hc _ _ h1, by rw [Nat.add_assoc]; exact hc _ _ h2⟩
theorem Own.prs {w : World} {base : Nat} {t : TypeId} {p : Option Addr} {l : List (Int × Int)} (h : Own w base t p (pcs l)) : Prs w p l := h.cells

/-- One pair appended to a row of the call's own. -/
theorem wpList_app_prs {T E : TypeId} (hu : Try.prog.underlying T = some (.slice E)) (hinfo : (Try.prog.info? E).map (fun i => (i.zero, i.size, i.bytes)) = some (some (.agg #[.int .i64 0, .int .i64 0]), 2, 16))
    {ops : Array Oper} {rest : List Oper} {o : Oper} {a : Act} {Q : Exit → Act → World → Prop} (w0 w1 : World) (v : Value) (l : List (Int × Int)) (x y : Int) (hgd : o.guard = none) (s t : Operand)
    (ho : o.op = .call { callee := .builtin .append, args := #[s, t], argTypes := #[T, T] }) (hs : a.eval s = v) (hown : w1.ownsRow w0.heap.size E 2 v l.length (pcs l))
    (hx : a.eval t = .slice (some ⟨w1.heap.size, 0, none⟩) 1 1) (hn : l.length ≤ 1099511627776) (hf : Fresh w0 w1)
    (h : ∀ v' w', w'.ownsRow w0.heap.size E 2 v' (l ++ [(x, y)]).length (pcs (l ++ [(x, y)])) → Fresh w0 w' → wpList Try.prog ops Q rest (a.put o.dst v') w') :
    wpList Try.prog ops Q (o :: rest) a (w1.alloc (.cells #[.int .i64 x, .int .i64 y] E)) := by
  obtain ⟨i0, hi, hz0, hz1, hz2⟩ := info_parts hinfo
  refine wpList_append_own _ hgd s t T ho w0.heap.size E i0 (.agg #[.int .i64 0, .int .i64 0]) 2 16 hu hi hz0 hz1 hz2 rfl (by decide) v l.length (pcs l) hs (hown.alloc _) ⟨w1.heap.size, 0, none⟩ 1 1 [iv x, iv y] hx rfl (cell_two_new _ _ _ _)
    (by intro u hu; simp at hu; rcases hu with rfl | rfl <;> rfl) (by unfold maxLen; omega) (by omega) (Nat.le_trans hf.size (by simp)) ?_
  intro v' w' hown' hgrow _
  refine h v' w' ?_ (fgrown (fnew hf _) hgrow (own_block hown))
  rw [pcs_app, List.length_append]
  exact hown'

theorem infoBlk : (Try.prog.info? 80).map (fun i => (i.zero, i.size, i.bytes)) = some (some (.agg #[.int .i64 0, .int .i64 0]), 2, 16) := by kernel_rfl
theorem madeCells_two (n : Nat) : madeCells #[iv 0, iv 0] n = (List.replicate n (iv 0)).toArray := by
  apply Array.ext
  · simp [madeCells]
  · intro i h1 h2
    have h : i % 2 = 0 ∨ i % 2 = 1 := by omega
    rcases h with h | h <;> simp [madeCells, h]
theorem mkPrs {T E : TypeId} (hu : Try.prog.underlying T = some (.slice E)) (hinfo : (Try.prog.info? E).map (fun i => (i.zero, i.size, i.bytes)) = some (some (.agg #[.int .i64 0, .int .i64 0]), 2, 16)) (n : Nat) (hn : n * 16 ≤ 281474976710656) (u : World) :
    (Instr.makeSlice T (.int .i64 (n : Int)) (.int .i64 (n : Int))).run Try.prog u = .ok (.slice (some ⟨u.heap.size, 0, none⟩) n n) (u.alloc (.cells ((List.replicate (n * 2) (iv 0)).toArray) E)) := by
  obtain ⟨i0, hi, hz0, hz1, hz2⟩ := info_parts hinfo
  have h := run_make (P := Try.prog) u T E i0 _ hu hi hz0 .i64 .i64 n n (by omega) (Int.le_refl _) (by rw [hz2]; omega) (by omega)
  rw [Int.toNat_natCast, hz1] at h
  rw [← madeCells_two]
  simpa [Value.cells] using h
theorem set_prs (l : List (Int × Int)) (k : Nat) (x y : Int) (hx : l[k]? = some (x, y)) :
    (((pcs (l.take k) ++ List.replicate ((l.length - k) * 2) (iv 0)).set (k * 2) (iv x)).set (k * 2 + 1) (iv y)) = pcs (l.take (k + 1)) ++ List.replicate ((l.length - (k + 1)) * 2) (iv 0) := by
  have hk : k < l.length := by
    rcases Nat.lt_or_ge k l.length with h | h
    · exact h
    · rw [List.getElem?_eq_none h] at hx; cases hx
  have hl : (pcs (l.take k)).length = k * 2 := by rw [pcs_len, List.length_take]; omega
  have e : (l.length - k) * 2 = (l.length - (k + 1)) * 2 + 1 + 1 := by omega
  have e2 : k * 2 + 1 - k * 2 = 0 + 1 := by omega
  rw [e, List.replicate_succ, List.replicate_succ, List.set_append, if_neg (by omega), hl, Nat.sub_self, List.set_cons_zero, List.set_append, if_neg (by omega), hl, e2, List.set_cons_succ, List.set_cons_zero,
    List.take_add_one, hx, pcs_app]
  simp [pcs, pc]
theorem get_prs0 (l : List (Int × Int)) (k : Nat) (hk : k < l.length) :
    (pcs (l.take k) ++ List.replicate ((l.length - k) * 2) (iv 0))[k * 2]? = some (iv 0) ∧ (pcs (l.take k) ++ List.replicate ((l.length - k) * 2) (iv 0))[k * 2 + 1]? = some (iv 0) := by
  have hl : (pcs (l.take k)).length = k * 2 := by rw [pcs_len, List.length_take]; omega
  have e : (l.length - k) * 2 = (l.length - (k + 1)) * 2 + 1 + 1 := by omega
  have e2 : k * 2 + 1 - k * 2 = 0 + 1 := by omega
  rw [e, List.replicate_succ, List.replicate_succ, List.getElem?_append_right (by omega), List.getElem?_append_right (by omega), hl, Nat.sub_self, e2]
  exact ⟨rfl, rfl⟩
theorem prs_end (l : List (Int × Int)) (k : Nat) (hk : l.length ≤ k) : pcs (l.take k) ++ List.replicate ((l.length - k) * 2) (iv 0) = pcs l := by
  rw [List.take_of_length_le hk, Nat.sub_eq_zero_of_le hk, Nat.zero_mul, List.replicate_zero, List.append_nil]

set_option maxHeartbeats 1000000 in
set_option maxRecDepth 100000 in
theorem toBlockS_any (p : Option Addr) (cap : Nat) (l : List (Int × Int)) (w : World) (hI : Prs w p l) (hn : l.length ≤ 1048576) :
    Calls Try.prog 57 #[.slice p l.length cap] w fun e w' =>
      e = .returned (.slice (some ⟨w.heap.size, 0, none⟩) l.length l.length) ∧ RowAt w' w.heap.size 80 (pcs l) ∧ Fresh w w' := by
  have hmk := mkPrs Try.underlying95 infoBlk l.length (by omega)
  go_enter Try.func57, Try.ntmps57
  go_wp2
  go_loopw [4] (fun i wr => ∃ k : Nat, k ≤ l.length ∧ i = .int .i64 k ∧ RowAt wr w.heap.size 80 (pcs (l.take k) ++ List.replicate ((l.length - k) * 2) (iv 0)) ∧ Fresh w wr)
    (fun i _ => l.length - (intOf i).toNat)
  case atStart => exact ⟨0, Nat.zero_le _, rfl, RowAt.new w _ (List.replicate (l.length * 2) (iv 0)), fnew (frefl _) _⟩
  case round =>
    obtain ⟨k, hk, rfl, hrow, hf⟩ := hrel
    by_cases hlt : k < l.length
    · obtain ⟨b, off, x, y, rfl, hx, hc0, hc1⟩ := hI.at hlt
      have hd0 := fkeep hf hc0
      have hd1 := fkeep hf hc1
      have HX := Lib.hid hx
      have HR := Lib.hid hrow
      have HF := Lib.hid hf
      clear hx hc0 hc1 hI hrow hf
      go_wp2_with fail
      refine (toBlock_any _ _ _).mono ?_; rintro e w1 ⟨rfl, hb1⟩
      have hr1 := HR.out.keep hb1
      obtain ⟨hz0, hz1⟩ := get_prs0 l k hlt
      have hcell0 := hr1.cell hz0
      have hcell1 := hr1.cell hz1
      have hfr0 := hr1.frozen (k * 2)
      have hfr1 := hr1.frozen (k * 2 + 1)
      have HR1 := Lib.hid hr1
      clear hr1 hz0 hz1
      go_wp2
      go_roundw
      case rel =>
        refine ⟨k + 1, by omega, by go_num, ?_, fset (fset (fstep HF.out hb1) (Nat.le_refl _) _) (Nat.le_refl _) _⟩
        have := (HR1.out.set (k * 2) (iv x)).set (k * 2 + 1) (iv y)
        rw [set_prs l k x y HX.out] at this
        exact this
      case measure => simp [intOf]; omega
    · have hkn : k = l.length := by omega
      subst hkn
      have HR := Lib.hid hrow
      have HF := Lib.hid hf
      clear hrow hf
      go_wp2
      go_ret
      refine ⟨rfl, ?_, HF.out⟩
      have := HR.out
      rw [prs_end _ _ (Nat.le_refl _)] at this
      exact this

set_option maxHeartbeats 400000 in
theorem szBlockS_any (p : Option Addr) (n cap : Nat) (left : Int) (w : World) (hn : n ≤ 9223372036854775807) (h0 : 0 ≤ left) (h1 : left ≤ 1048576) :
    Calls Try.prog 55 #[.slice p n cap, .int .i64 left] w (SzOut w left (n ≤ 1048576)) := by
  by_cases hb : left - (n : Int) < 0
  · go_enter Try.func55, Try.ntmps55
    go_wp2
    go_ret
    exact ⟨_, rfl, by omega, by omega, fun h => by omega, frefl _⟩
  · go_enter Try.func55, Try.ntmps55
    go_wp2
    go_ret
    exact ⟨_, rfl, by omega, by omega, fun h => by omega, frefl _⟩

set_option maxHeartbeats 1000000 in
set_option maxRecDepth 100000 in
theorem eqBlockS_same (p q : Option Addr) (c d : Nat) (l : List (Int × Int)) (w : World) (hx : Prs w p l) (hy : Prs w q l) (hn : l.length ≤ 1099511627776) :
    Calls Try.prog 59 #[.slice p l.length c, .slice q l.length d] w fun e w' => e = .returned (.bool true) ∧ Fresh w w' := by
  go_enter Try.func59, Try.ntmps59
  go_wp2
  go_loopw [5] (fun i wr => ∃ k : Nat, k ≤ l.length ∧ i = .int .i64 k ∧ Fresh w wr) (fun i _ => l.length - (intOf i).toNat)
  case atStart => exact ⟨0, Nat.zero_le _, rfl, frefl _⟩
  case round =>
    obtain ⟨k, hk, rfl, hf⟩ := hrel
    by_cases hlt : k < l.length
    · obtain ⟨b, off, x, y, rfl, hx0, hc0, hc1⟩ := hx.at hlt
      obtain ⟨b', off', x', y', rfl, hy0, hc0', hc1'⟩ := hy.at hlt
      rw [hx0] at hy0
      simp only [Option.some.injEq, Prod.mk.injEq] at hy0
      obtain ⟨rfl, rfl⟩ := hy0
      have hd0 := fkeep hf hc0
      have hd1 := fkeep hf hc1
      have hd0' := fkeep hf hc0'
      have hd1' := fkeep hf hc1'
      have HF := Lib.hid hf
      clear hx0 hc0 hc1 hc0' hc1' hx hy hf
      have h1 : (k : Int) < (l.length : Int) := by omega
      go_wp2
      go_still_tail 8, (by kernel_rfl)
      change wpList _ _ _ _ _ wr.drew
      have HF2 : Hid (Fresh w wr.drew) := fdrew HF.out
      generalize wr.drew = w2 at HF2
      go_wp2_with (go_at_call 114; refine (eqBlock_same _ _ _).mono ?_; rintro e w3 ⟨rfl, hb3⟩)
      go_roundw
      case rel => exact ⟨k + 1, by omega, by go_num, fstep HF2.out hb3⟩
      case measure => simp [intOf]; omega
    · have hkn : k = l.length := by omega
      subst hkn
      have HF := Lib.hid hf
      clear hf
      go_wp2
      go_ret
      exact ⟨rfl, HF.out⟩


def BkRaw (w : World) (v : Value) (L : List (Int × Int)) : Prop := ∃ p cap, v = .slice p L.length cap ∧ Prs w p L ∧ L.length ≤ 9223372036854775807
def BkSmall (L : List (Int × Int)) : Prop := L.length ≤ 1048576
def BkIn (w : World) (v : Value) (L : List (Int × Int)) : Prop := ∃ p cap, v = .slice p L.length cap ∧ Prs w p L ∧ L.length ≤ 1048576
theorem BkRaw.keep {w w' : World} {v : Value} {L : List (Int × Int)} (h : BkRaw w v L) (hb : Fresh w w') : BkRaw w' v L := by
  obtain ⟨p, cap, h1, h2, r⟩ := h
  exact ⟨p, cap, h1, h2.keep hb, r⟩
theorem BkIn.keep {w w' : World} {v : Value} {L : List (Int × Int)} (h : BkIn w v L) (hb : Fresh w w') : BkIn w' v L := by
  obtain ⟨p, cap, h1, h2, r⟩ := h
  exact ⟨p, cap, h1, h2.keep hb, r⟩
theorem BkRaw.small {w : World} {v : Value} {L : List (Int × Int)} (h : BkRaw w v L) (hs : BkSmall L) : BkIn w v L := by
  obtain ⟨p, cap, h1, h2, _⟩ := h
  exact ⟨p, cap, h1, h2, hs⟩
theorem szBlocks_k (v : Value) (L : List (Int × Int)) (left : Int) (w : World) (h : BkRaw w v L) (h0 : 0 ≤ left) (h1 : left ≤ 1048576) : Calls Try.prog 55 #[v, .int .i64 left] w (SzOut w left (BkSmall L)) := by
  obtain ⟨p, cap, rfl, h2, h3⟩ := h
  exact szBlockS_any p L.length cap left w h3 h0 h1
theorem toBlocks_k (v : Value) (L : List (Int × Int)) (w : World) (h : BkIn w v L) : Calls Try.prog 57 #[v] w fun e w' => ∃ v', e = .returned v' ∧ BkIn w' v' L ∧ Fresh w w' := by
  obtain ⟨p, cap, rfl, h2, h3⟩ := h
  refine (toBlockS_any p cap L w h2 h3).mono ?_
  rintro e w' ⟨he, hr, hf⟩
  exact ⟨_, he, ⟨_, _, rfl, RowAt.cells hr, h3⟩, hf⟩
theorem eqBlocks_k (v v' : Value) (L : List (Int × Int)) (w : World) (h : BkIn w v L) (h' : BkIn w v' L) : Calls Try.prog 59 #[v, v'] w fun e w' => e = .returned (.bool true) ∧ Fresh w w' := by
  obtain ⟨p, cap, rfl, h2, h3⟩ := h
  obtain ⟨p', cap', rfl, h2', _⟩ := h'
  exact eqBlockS_same p p' cap cap' L w h2 h2' (by omega)
end Go.Proofs.Ytjlhjkdmpngkbaa
