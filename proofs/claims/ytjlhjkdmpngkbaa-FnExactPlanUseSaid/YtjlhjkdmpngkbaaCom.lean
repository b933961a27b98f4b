/- Contracts: slices.Sort and slices.Compact of a slice of ints of the call's own; what two lists have in common. -/
import Derived.Test.YtjlhjkdmpngkbaaHas
import Derived.Test.YtjlhjkdmpngkbaaInts
import Derived.Test.YtjlhjkdmpngkbaaShelf
import Derived.Sort.OwnSortedInts
import Derived.Lib.OwnBridge
namespace Go.Proofs.Ytjlhjkdmpngkbaa
open Go.RowKit Go.PlainAid Go.Sort

def sortI (l : List Int) : List Int := l.mergeSort fun x y => decide (x ≤ y)
theorem sortI_len (l : List Int) : (sortI l).length = l.length := by unfold sortI; simp
theorem sortI_mem (l : List Int) (x : Int) : x ∈ sortI l ↔ x ∈ l := by unfold sortI; simp
theorem int_inj {zs ys : List Int} (h : zs.map iv = ys.map iv) : zs = ys := by
  induction zs generalizing ys with
  | nil => cases ys with | nil => rfl | cons => simp at h
  | cons a l ih => cases ys with
    | nil => simp at h
    | cons b m => simp only [List.map_cons, List.cons.injEq, iv, Value.int.injEq, true_and] at h; rw [h.1, ih h.2]

theorem sort_own (w0 w : World) (v : Value) (zs : List Int) (hown : w.ownsRow w0.heap.size 3 1 v zs.length (zs.map iv)) (hf : Fresh w0 w) (hbig : zs.length ≤ 1099511627776) :
    Calls Try.prog 180 #[v] w fun e w' => e = .returned (.tuple #[]) ∧ w'.ownsRow w0.heap.size 3 1 v zs.length ((sortI zs).map iv) ∧ Fresh w0 w' := by
  rcases hown.2 with ⟨rfl, hz⟩ | ⟨g, cap, cur, rfl, hb, hg, hn, hm, hs, ht⟩
  · have h0 : zs = [] := by simpa using hz
    subst h0
    refine (Try.slices_Sort_int_none none 0 w).mono ?_
    rintro e w' ⟨rfl, rfl⟩
    exact ⟨rfl, by simpa [sortI] using hown, hf⟩
  · rw [Nat.mul_one] at ht
    have hlt : g < w.heap.size := by
      rcases Nat.lt_or_ge g w.heap.size with h' | h'
      · exact h'
      · rw [Array.getElem?_eq_none h'] at hg; cases hg
    refine (Try.slices_Sort_int g 0 cap zs w (holds_of_blockI hg ht) hlt (by omega)).mono ?_
    rintro e w' ⟨rfl, n, os, rfl⟩
    exact ⟨rfl, ownsRow_sortedI (ss := zs) (ts := sortI zs) (sortI_len zs) hb hg hn hm hs, fgrown (v := .slice (some ⟨g, 0, none⟩) zs.length cap) hf (grownBy_sortedI (w := w) _) (fun k hk => by simp only [Value.ownBlock, Option.some.injEq] at hk; omega)⟩

theorem compact_own (w0 w : World) (v : Value) (zs : List Int) (hown : w.ownsRow w0.heap.size 3 1 v zs.length (zs.map iv)) (hf : Fresh w0 w) :
    Calls Try.prog 181 #[v] w fun e w' => ∃ v', e = .returned v' ∧ w'.ownsRow w0.heap.size 3 1 v' (Lib.compact zs).length ((Lib.compact zs).map iv) ∧ Fresh w0 w' := by
  rcases hown.2 with ⟨rfl, hz⟩ | ⟨g, cap, cur, rfl, hb, hg, hn, hm, hs, ht⟩
  · have h0 : zs = [] := by simpa using hz
    subst h0
    refine (Try.slices_Compact_int_empty none 0 w).mono ?_
    rintro e w' ⟨rfl, rfl⟩
    exact ⟨_, rfl, by simpa [Lib.compact, Lib.compactUpTo] using hown, hf⟩
  · rw [Nat.mul_one] at ht
    refine (Try.slices_Compact_int g 0 cap zs w (holds_of_blockI hg ht) (by unfold maxLen at hm; omega) hn).mono ?_
    rintro e w' ⟨rfl, q, rfl⟩
    have hc : (Lib.compact zs).length ≤ zs.length := by
      unfold Lib.compact Lib.compactUpTo
      rw [List.length_map]
      have := List.length_filter_le (Lib.keeps zs.toArray) (List.range zs.length)
      simpa using this
    have := Lib.ownsRow_putRow (enc := Value.int .i64) (q := q) (k := (Lib.compact zs).length) (ys := Lib.compact zs ++ List.replicate (zs.length - (Lib.compact zs).length) 0) hown (by simp; omega) hc
    rw [List.take_left] at this
    exact ⟨_, rfl, this, Lib.below_putRow hf hb⟩

theorem compact_ne {zs : List Int} (h : zs ≠ []) : Lib.compact zs ≠ [] := by
  have : ∀ m, 0 < m → Lib.compactUpTo zs.toArray m ≠ [] := by
    intro m hm
    induction m with
    | zero => omega
    | succ m ih =>
      rw [Lib.compactUpTo_succ]
      rcases Nat.eq_zero_or_pos m with h0 | h0
      · subst h0
        rw [if_pos (Lib.keeps_lt_one _ 0 (by omega))]; simp
      · simp [ih h0]
  exact this _ (List.length_pos_iff.2 h)
theorem compact_nil : Lib.compact ([] : List Int) = [] := by simp [Lib.compact, Lib.compactUpTo]
/-- What two lists have in common, rising. -/
def commonF (a b : List Int) : List Int := Lib.compact (sortI (a.filter fun k => decide (k ∈ b)))
def usesB (a b : List Int) : Bool := a.any fun k => decide (k ∈ b)
theorem common_pos (a b : List Int) : decide (0 < ((commonF a b).length : Int)) = usesB a b := by
  unfold usesB
  cases h : a.any fun k => decide (k ∈ b)
  · have e : (a.filter fun k => decide (k ∈ b)) = [] := by
      rw [List.filter_eq_nil_iff]
      intro x hx
      rw [List.any_eq_false] at h
      exact h x hx
    unfold commonF; rw [e]; simp [sortI, compact_nil]
  · have e : (a.filter fun k => decide (k ∈ b)) ≠ [] := by
      intro he
      rw [List.filter_eq_nil_iff] at he
      rw [List.any_eq_true] at h
      obtain ⟨x, hx, h2⟩ := h
      exact he x hx h2
    have h2 : sortI (a.filter fun k => decide (k ∈ b)) ≠ [] := by
      intro h0
      have := congrArg List.length h0
      rw [sortI_len] at this
      exact e (List.eq_nil_of_length_eq_zero (by simpa using this))
    have := List.length_pos_iff.2 (compact_ne h2)
    unfold commonF
    simp only [decide_eq_true_eq]
    omega
theorem filt_step {a : List Int} {f : Int → Bool} {k : Nat} {x : Int} (hx : a[k]? = some x) : (a.take (k + 1)).filter f = if f x then (a.take k).filter f ++ [x] else (a.take k).filter f := by
  rw [List.take_add_one, hx, List.filter_append]
  cases h : f x <;> simp [h]

set_option maxHeartbeats 2000000 in
set_option maxRecDepth 100000 in
theorem common_any (p q : Option Addr) (c d : Nat) (a b : List Int) (w : World) (ha : Ints w p a) (hb : Ints w q b) (na : a.length ≤ 1048576) (nb : b.length ≤ 1048576) :
    Calls Try.prog 154 #[.slice p a.length c, .slice q b.length d] w (OutInts w (commonF a b)) := by
  go_enter Try.func154, Try.ntmps154
  go_wp2
  go_loopw [5, 7, 11] (fun o _ i wr => ∃ k : Nat, k ≤ a.length ∧ i = .int .i64 k ∧ wr.ownsRow w.heap.size 3 1 o ((a.take k).filter fun k => decide (k ∈ b)).length (((a.take k).filter fun k => decide (k ∈ b)).map iv) ∧ Fresh w wr) (fun _ _ i _ => a.length - (intOf i).toNat)
  case atStart => exact ⟨0, Nat.zero_le _, rfl, World.ownsRow_made w #[] 0 (Nat.le_refl _) (by simp [maxLen]) rfl, fnew (frefl _) _⟩
  case round =>
    obtain ⟨k, hk, rfl, hown, hf⟩ := hrel
    have HF := Lib.hid hf
    obtain ⟨L, hL⟩ : ∃ L, L = (a.take k).filter fun k => decide (k ∈ b) := ⟨_, rfl⟩
    have hLn : L.length ≤ 1048576 := by
      rw [hL]
      have h1 := List.length_filter_le (fun k => decide (k ∈ b)) (a.take k)
      have h2 : (a.take k).length ≤ a.length := by simp; omega
      omega
    rw [← hL] at hown
    have HO := Lib.hid hown
    have HL := Lib.hid hL
    clear hown hL
    by_cases hlt : k < a.length
    · have hltz : (k : Int) < (a.length : Int) := by omega
      obtain ⟨b1, off, x, rfl, hx, hc⟩ := (ha.keep hf).at hlt
      have HST := Lib.hid (filt_step (f := fun k => decide (k ∈ b)) hx)
      have HB := Lib.hid (hb.keep hf)
      clear hx hf
      by_cases hmem : x ∈ b
      · have hdm : decide (x ∈ b) = true := decide_eq_true hmem
        have HN : Hid ((a.take (k + 1)).filter (fun k => decide (k ∈ b)) = L ++ [x]) := by show _ = _; rw [HST.out, if_pos hdm, HL.out]
        have hown := HO.out
        clear hmem
        go_wp2_with (first
          | (go_at_call 146; refine (containsI_any _ _ _ _ _ HB.out (by omega)).mono ?_; rintro e w2 ⟨rfl, rfl⟩)
          | (at_builtin; refine wpList_app_ints w _ _ L x rfl _ _ rfl rfl hown rfl (by omega) HF.out ?_; intro v' w2 hown2 hf2))
        have HO2 := Lib.hid hown2
        have HF2 := Lib.hid hf2
        clear hown hown2 hf2 hc
        go_wp2
        go_roundw
        case rel => exact ⟨k + 1, by omega, by go_num, by rw [HN.out]; exact HO2.out, HF2.out⟩
        case measure => simp [intOf]; omega
      · have hdm : decide (x ∈ b) = false := decide_eq_false hmem
        have HN : Hid ((a.take (k + 1)).filter (fun k => decide (k ∈ b)) = L) := by show _ = _; rw [HST.out, if_neg (by simp [hmem]), HL.out]
        clear hmem
        go_wp2_with (go_at_call 146; refine (containsI_any _ _ _ _ _ HB.out (by omega)).mono ?_; rintro e w2 ⟨rfl, rfl⟩)
        go_roundw
        case rel => exact ⟨k + 1, by omega, by go_num, by rw [HN.out]; exact HO.out, HF.out⟩
        case measure => simp [intOf]; omega
    · have hkn : k = a.length := by omega
      have hltz : ¬ (k : Int) < (a.length : Int) := by omega
      have HL2 : Hid (L = a.filter fun k => decide (k ∈ b)) := by show L = _; rw [HL.out, hkn, List.take_length]
      clear hf HL
      go_wp2_with fail
      refine (sort_own w _ _ L HO.out HF.out (by omega)).mono ?_
      rintro e w1 ⟨rfl, ho1, hf1⟩
      have HO1 := Lib.hid ho1
      have HF1 := Lib.hid hf1
      clear ho1 hf1
      go_wp2_with fail
      refine (compact_own w _ _ (sortI L) (by rw [sortI_len]; exact HO1.out) HF1.out).mono ?_
      rintro e w2 ⟨v2, rfl, ho2, hf2⟩
      obtain ⟨p2, c2, rfl, ho3⟩ := own_of_row ho2
      have HO3 := Lib.hid ho3
      have HF2 := Lib.hid hf2
      clear ho2 hf2 ho3
      go_wp2
      go_ret
      exact ⟨p2, c2, by unfold commonF; rw [← HL2.out]; rfl, by unfold commonF; rw [← HL2.out]; exact HO3.out, HF2.out⟩
end Go.Proofs.Ytjlhjkdmpngkbaa
